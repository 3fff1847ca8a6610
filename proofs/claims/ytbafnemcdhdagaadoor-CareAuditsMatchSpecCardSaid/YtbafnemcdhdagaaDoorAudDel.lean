/-
  slices.IndexFunc and slices.DeleteFunc at audits, by their class.
-/
import Derived.Test.YtbafnemcdhdagaaDoorProg
import Derived.Test.YtbafnemcdhdagaaDoorAudC
import Derived.Test.YtbafnemcdhdagaaDoorInsP
namespace Go.Proofs.YtbafnemcdhdagaaDoor
open Go.RowKit Go.Sort
set_option linter.unusedVariables false
set_option linter.unusedSimpArgs false

theorem run_clear_rowK {P : Program} (w : World) (t e : TypeId) (z : Value) (ht : P.underlying t = some (.slice e)) (hv : ∀ w, (zeroValue e).run P w = .ok z w) (h1 : ∀ u ∈ z.cells.toList, u.oneCell' = true) (g o n c : Nat) (cur : List Value) (t' : TypeId)
    (hg : Blk w g t' cur) (hn : 0 < n) (hfit : o + n * z.cells.size ≤ cur.length) : ∃ zs : List Value, zs.length = n * z.cells.size ∧ ∀ ty, (Builtin.clear_ #[t] ty #[.slice (some ⟨g, o, none⟩) n c]).run P w = .ok (.tuple #[]) (w.setRow g (cur.take o ++ zs ++ cur.drop (o + zs.length)).toArray) := by
  refine ⟨(Builtin.zeroCells z.cells n).toList, by simp [Builtin.zeroCells], fun ty => ?_⟩
  have hl : (Builtin.zeroCells z.cells n).toList.length = n * z.cells.size := by simp [Builtin.zeroCells]
  have hst := run_storeCells_at P g o t' (Builtin.zeroCells z.cells n).toList 0 cur.toArray w hg (by simp only [Nat.add_zero, List.size_toArray]; omega) (fun u hu => by
    simp only [Builtin.zeroCells, Array.toList_map, List.mem_map] at hu
    obtain ⟨i, hi, rfl⟩ := hu
    have hi' : i < n * z.cells.size := by simpa using hi
    have hs : 0 < z.cells.size := by
      rcases Nat.eq_zero_or_pos z.cells.size with h | h
      · rw [h, Nat.mul_zero] at hi'; omega
      · exact h
    have hm : i % z.cells.size < z.cells.size := Nat.mod_lt _ hs
    rw [getElem!_pos z.cells _ hm]
    exact h1 _ (by simp))
  obtain ⟨m, rfl⟩ : ∃ m, n = m + 1 := ⟨n - 1, by omega⟩
  simp [Builtin.clear_, run_underlying ht, hv, hst]
theorem set3 : ∀ (p : Nat) (cur : List Value) (a b c : Value), p + 3 ≤ cur.length → ((cur.set p a).set (p + 1) b).set (p + 2) c = cur.take p ++ a :: b :: c :: cur.drop (p + 3)
  | 0, x :: y :: z :: r, a, b, c, _ => rfl
  | p + 1, x :: r, a, b, c, h => by
    have ih := set3 p r a b c (by simpa using h)
    show x :: (((r.set p a).set (p + 1) b).set (p + 2) c) = x :: (r.take p ++ a :: b :: c :: r.drop (p + 3))
    rw [ih]
theorem wpList_clear_runK {P : Program} (w : World) {ops : Array Oper} {rest : List Oper} {o : Oper} {a : Act} {Q : Exit → Act → World → Prop} (hgd : o.guard = none) (s : Operand) (t : TypeId)
    (ho : o.op = .call { callee := .builtin .clear, args := #[s], argTypes := #[t] }) (v : Value) (hs : a.eval s = v) {v' : Value} {w' : World}
    (hr : (Builtin.clear_ #[t] o.type #[v]).run P w = .ok v' w') (h : wpList P ops Q rest (a.put o.dst v') w') : wpList P ops Q (o :: rest) a w := by
  refine wpList_plain hgd fun K hK => ?_
  unfold Oper.wp execOp
  simp only [ho, resolve, invoke, builtin, Sem.run_bind, Sem.run_pure, Result.andThen_ok, List.map_toArray, List.map_cons, List.map_nil, hs, hr]
  exact hK _ _ h
theorem grown_more {w wr w2 : World} {g : Nat} (h : w.grownBy wr (some g)) (hb : Below wr.heap.size wr w2) : w.grownBy w2 (some g) :=
  ⟨hb.os.trans h.os, hb.tape.trans h.tape, hb.output.trans h.output, Nat.le_trans h.size hb.size, fun k hk hne => (hb.block k (Nat.lt_of_lt_of_le hk h.size)).trans (h.block k hk hne)⟩
theorem grown_set {w w2 : World} {g : Nat} (h : w.grownBy w2 (some g)) (i : Nat) (v : Value) : w.grownBy (w2.setCell ⟨g, i, none⟩ v) (some g) :=
  ⟨h.os, h.tape, h.output, by simpa using h.size, fun k hk hne => (Below.heap_setCell _ _ _ k (fun e => hne (by rw [e]))).trans (h.block k hk hne)⟩
theorem grown_row {w w2 : World} {g : Nat} (h : w.grownBy w2 (some g)) (cs : Array Value) : w.grownBy (w2.setRow g cs) (some g) :=
  ⟨h.os, h.tape, h.output, by simpa [World.setRow] using h.size, fun k hk hne => (setRow_other w2 g k cs (fun e => hne (by rw [e]))).trans (h.block k hk hne)⟩
def keepA (ev dy : Int) (l : List Aud) : List Aud := l.filter (fun x => !delA x ev dy)
theorem keepA_snoc (ev dy : Int) (l : List Aud) (x : Aud) : keepA ev dy (l ++ [x]) = if delA x ev dy = true then keepA ev dy l else keepA ev dy l ++ [x] := by
  unfold keepA
  rw [List.filter_append]
  cases h : delA x ev dy <;> simp [h]
theorem keepA_len (ev dy : Int) (l : List Aud) : (keepA ev dy l).length ≤ l.length := List.length_filter_le _ _
theorem keepA_all {ev dy : Int} {l : List Aud} (h : ∀ j (hj : j < l.length), delA l[j] ev dy = false) : keepA ev dy l = l := by
  unfold keepA
  rw [List.filter_eq_self]
  intro a ha
  obtain ⟨j, hj, rfl⟩ := List.mem_iff_getElem.1 ha
  rw [h j hj]; rfl
theorem aud_flat (l : List Aud) (k : Nat) (h : k < l.length) : ((l.flatMap audCells).drop (k * 3)).take 3 = audCells l[k] := flat_at (f := audCells) (sz := 3) (fun _ => rfl) l k h
theorem aud_flat_len (l : List Aud) : (l.flatMap audCells).length = l.length * 3 := flat_len (f := audCells) (sz := 3) (fun _ => rfl) l
theorem aud_flat_at (l : List Aud) (k j : Nat) (h : k < l.length) (hj : j < 3) : (l.flatMap audCells)[k * 3 + j]? = (audCells l[k])[j]? := by
  rw [← aud_flat l k h, List.getElem?_take_of_lt hj, List.getElem?_drop]
/-- What IndexFunc answers. -/
def IdxA (L : List Aud) (ev dy r : Int) : Prop := (r = -1 ∧ ∀ j (hj : j < L.length), delA L[j] ev dy = false) ∨ ∃ k, ∃ hk : k < L.length, r = k ∧ delA L[k] ev dy = true ∧ ∀ j (hj : j < k), delA (L[j]'(by omega)) ev dy = false
def IdxPost (L : List Aud) (ev dy : Int) (w : World) (e : Ending) (w' : World) : Prop := ∃ r, e = .returned (.int .i64 r) ∧ IdxA L ev dy r ∧ Gr w w'
set_option maxRecDepth 100000 in
set_option maxHeartbeats 1000000 in
theorem idxAud_any (v : Value) (L : List Aud) (ev dy : Int) (be bd : Nat) (w : World) (h : (Rp.sl audRp).ok w (· < w.heap.size) [v] L) (hlen : L.length ≤ 3000) (h1 : 1 ≤ ev) (h2 : ev ≤ 3000000) (h3 : 0 ≤ dy) (h4 : dy ≤ 3000000) (he : w.cell? ⟨be, 0, none⟩ = some (.int .i64 ev)) (hd : w.cell? ⟨bd, 0, none⟩ = some (.int .i64 dy)) :
    Calls Tryd.prog 97 #[v, .func (.func 58) #[] #[.pointer (some ⟨be, 0, none⟩), .pointer (some ⟨bd, 0, none⟩)]] w (IdxPost L ev dy w) := by
  obtain ⟨A, c, rfl, hl, hc, _⟩ := Rp.sl_open h
  unfold maxLen at hc
  have hbe := World.block_lt_of_cell? w _ he
  have hbd := World.block_lt_of_cell? w _ hd
  have H := Lib.hid h
  have HE := Lib.hid he
  have HD := Lib.hid hd
  clear h he hd
  go_enter Tryd.func97, Tryd.ntmps97
  go_wp2_with fail
  go_loopw [8] (fun vi wr => ∃ k : Nat, k ≤ L.length ∧ vi = .int .i64 k ∧ Hid (∀ j (hj : j < k) (hjl : j < L.length), delA L[j] ev dy = false) ∧ Hid (Gr w wr)) (fun vi _ => L.length - (intOf vi).toNat)
  case atStart => exact ⟨0, by omega, rfl, fun j hj => absurd hj (by omega), Gr.refl w⟩
  case round =>
    obtain ⟨k, hk, rfl, HS, HG⟩ := hrel
    by_cases hlt : k < L.length
    · obtain ⟨ad, c', e1, hadb, c0, c1, c2, _, _⟩ := aud_at (Rp.below _ H.out HG.out.below) hlt
      cases e1
      have hcon := Lib.hid (delA_any L[k] ev dy be bd wr h1 h2 h3 h4 ((HG.out.below.cell (p := ⟨be, 0, none⟩) hbe).trans HE.out) ((HG.out.below.cell (p := ⟨bd, 0, none⟩) hbd).trans HD.out))
      have HDK : Hid (delA L[k] ev dy = delA L[k] ev dy) := Lib.hid rfl
      cases hdk : delA L[k] ev dy with
      | true =>
        rw [hdk] at hcon
        have HP : Hid (IdxA L ev dy k) := Lib.hid (.inr ⟨k, hlt, rfl, hdk, fun j hj => HS.out j hj (by omega)⟩)
        unfold audCells at hcon
        clear hdk HDK HS hadb
        generalize L[k] = x at *
        go_wp2_with (go_at_call 58; refine hcon.out.mono ?_; rintro e w2 ⟨rfl, hg⟩)
        go_ret
        exact ⟨_, rfl, HP.out, HG.out.trans hg⟩
      | false =>
        rw [hdk] at hcon
        have HS2 : Hid (∀ j (hj : j < k + 1) (hjl : j < L.length), delA L[j] ev dy = false) := Lib.hid (fun j hj hjl => by
          rcases Nat.lt_or_eq_of_le (Nat.le_of_lt_succ hj) with h | rfl
          · exact HS.out j h hjl
          · exact hdk)
        unfold audCells at hcon
        clear hdk HDK HS hadb
        generalize L[k] = x at *
        go_wp2_with (go_at_call 58; refine hcon.out.mono ?_; rintro e w2 ⟨rfl, hg⟩)
        go_roundw
        case rel => exact ⟨k + 1, by omega, by go_num, HS2, HG.out.trans hg⟩
        case measure => simp [intOf]; omega
    · obtain rfl : k = L.length := by omega
      have HP : Hid (IdxA L ev dy (-1)) := Lib.hid (.inl ⟨rfl, fun j hj => HS.out j hj hj⟩)
      go_wp2_with fail
      go_ret
      exact ⟨_, rfl, HP.out, HG.out⟩
def DelPost (B : Nat) (v : Value) (L : List Aud) (ev dy : Int) (w : World) (e : Ending) (w' : World) : Prop :=
  ∃ v', e = .returned v' ∧ w'.ownsRow B 103 3 v' (keepA ev dy L).length ((keepA ev dy L).flatMap audCells) ∧ w.grownBy w' v.ownBlock
/-- What DeleteFunc's loop keeps of the row. -/
structure DelInv (L : List Aud) (ev dy : Int) (cap i j : Nat) (cur : List Value) : Prop where
  len : cur.length = cap * 3
  pre : cur.take (i * 3) = (keepA ev dy (L.take j)).flatMap audCells
  cnt : (keepA ev dy (L.take j)).length = i
  lt : i < j
  rest : ∀ k, j * 3 ≤ k → k < L.length * 3 → cur[k]? = (L.flatMap audCells)[k]?
theorem DelInv.skip {L : List Aud} {ev dy : Int} {cap i j : Nat} {cur : List Value} (h : DelInv L ev dy cap i j cur) (hj : j < L.length) (hd : delA L[j] ev dy = true) : DelInv L ev dy cap i (j + 1) cur where
  len := h.len
  pre := by rw [List.take_succ_eq_append_getElem hj, keepA_snoc, if_pos hd]; exact h.pre
  cnt := by rw [List.take_succ_eq_append_getElem hj, keepA_snoc, if_pos hd]; exact h.cnt
  lt := by have := h.lt; omega
  rest := fun k k1 k2 => h.rest k (by omega) k2
theorem DelInv.keep {L : List Aud} {ev dy : Int} {cap i j : Nat} {cur : List Value} (h : DelInv L ev dy cap i j cur) (hj : j < L.length) (hc : L.length ≤ cap) (hd : delA L[j] ev dy = false) :
    DelInv L ev dy cap (i + 1) (j + 1) (((cur.set (i * 3) (.string (bstr L[j].item))).set (i * 3 + 1) (.int .i64 L[j].last)).set (i * 3 + 2) (.bool L[j].urg)) := by
  have hl := h.len
  have hij := h.lt
  have e := set3 (i * 3) cur (.string (bstr L[j].item)) (.int .i64 L[j].last) (.bool L[j].urg) (by omega)
  have ht : (cur.take (i * 3)).length = i * 3 := by rw [List.length_take]; omega
  refine ⟨by simp [hl], ?_, ?_, by omega, fun k k1 k2 => ?_⟩
  · rw [e, List.take_succ_eq_append_getElem hj, keepA_snoc, if_neg (by rw [hd]; decide), List.flatMap_append, ← h.pre]
    rw [show (i + 1) * 3 = i * 3 + 3 by omega, show cur.take (i * 3) ++ Value.string (bstr L[j].item) :: Value.int .i64 L[j].last :: Value.bool L[j].urg :: cur.drop (i * 3 + 3) = (cur.take (i * 3) ++ audCells L[j]) ++ cur.drop (i * 3 + 3) by simp [audCells]]
    rw [List.take_left' (by rw [List.length_append, ht]; rfl)]
    simp [List.flatMap]
  · rw [List.take_succ_eq_append_getElem hj, keepA_snoc, if_neg (by rw [hd]; decide), List.length_append, h.cnt]; rfl
  · rw [List.getElem?_set_ne (by omega), List.getElem?_set_ne (by omega), List.getElem?_set_ne (by omega)]
    exact h.rest k (by omega) k2
theorem DelInv.start {L : List Aud} {ev dy : Int} {cap k : Nat} {cur : List Value} (hl : cur.length = cap * 3) (ht : cur.take (L.length * 3) = L.flatMap audCells) (hk : k < L.length) (hd : delA L[k] ev dy = true) (hf : ∀ j (hj : j < k), delA (L[j]'(by omega)) ev dy = false) : DelInv L ev dy cap k (k + 1) cur := by
  have hka : keepA ev dy (L.take k) = L.take k := keepA_all (fun j hj => by rw [List.length_take] at hj; rw [List.getElem_take]; exact hf j (by omega))
  refine ⟨hl, ?_, ?_, by omega, fun i i1 i2 => ?_⟩
  · rw [List.take_succ_eq_append_getElem hk, keepA_snoc, if_pos hd, hka]
    have : cur.take (k * 3) = (L.flatMap audCells).take (k * 3) := by rw [← ht, List.take_take]; congr 1; omega
    rw [this]
    conv => lhs; rw [← List.take_append_drop k L, List.flatMap_append]
    rw [List.take_left' (by rw [aud_flat_len, List.length_take]; omega)]
  · rw [List.take_succ_eq_append_getElem hk, keepA_snoc, if_pos hd, hka, List.length_take]; omega
  · rw [← ht, List.getElem?_take_of_lt i2]
set_option maxRecDepth 100000 in
set_option maxHeartbeats 4000000 in
theorem delAud_any (v : Value) (L : List Aud) (ev dy : Int) (be bd B : Nat) (w : World) (hown : w.ownsRow B 103 3 v L.length (L.flatMap audCells)) (hL : ∀ s ∈ L, s.item.length ≤ maxLen ∧ (Lit.int .i64 s.last).wf = true) (hB : be < B ∧ bd < B ∧ B ≤ w.heap.size) (hlen : L.length ≤ 3000) (h1 : 1 ≤ ev) (h2 : ev ≤ 3000000) (h3 : 0 ≤ dy) (h4 : dy ≤ 3000000)
    (he : w.cell? ⟨be, 0, none⟩ = some (.int .i64 ev)) (hd : w.cell? ⟨bd, 0, none⟩ = some (.int .i64 dy)) :
    Calls Tryd.prog 56 #[v, .func (.func 58) #[] #[.pointer (some ⟨be, 0, none⟩), .pointer (some ⟨bd, 0, none⟩)]] w (DelPost B v L ev dy w) := by
  have HIX := Lib.hid (idxAud_any v L ev dy be bd w (auds_read hown hL) hlen h1 h2 h3 h4 he hd)
  have HO := Lib.hid hown
  obtain ⟨A, c, rfl, hnc, hcm, _⟩ := own_form hown
  unfold maxLen at hcm
  have HE := Lib.hid he
  have HD := Lib.hid hd
  clear hown he hd hL
  go_enter Tryd.func56, Tryd.ntmps56
  go_wp2_with fail
  refine HIX.out.mono ?_
  rintro e w1 ⟨r, rfl, hidx, hg1⟩
  have HG1 := Lib.hid hg1
  clear hg1 HIX
  rcases hidx with ⟨rfl, hall⟩ | ⟨k, hk, rfl, hdk, hf⟩
  · have HK : Hid (keepA ev dy L = L) := Lib.hid (keepA_all hall)
    clear hall
    have hneg : ((-1 : Int) == -1) = true := rfl
    go_wp2_with fail
    go_ret
    exact ⟨_, rfl, by rw [HK.out]; exact own_below HO.out HG1.out.below, by have := below_grown HG1.out.below; exact ⟨this.os, this.tape, this.output, this.size, fun k hk _ => this.block k hk (by simp)⟩⟩
  · obtain ⟨g, cur, rfl, hBg, hg, hcs, htk⟩ : ∃ (g : Nat) (cur : List Value), A = some ⟨g, 0, none⟩ ∧ B ≤ g ∧ Blk w g 103 cur ∧ cur.length = c * 3 ∧ cur.take (L.length * 3) = L.flatMap audCells := by
      rcases HO.out.2 with ⟨e1, h2⟩ | ⟨g, cap, cur, e1, hb, hh, _, _, h5, h6⟩
      · omega
      · injection e1 with e1 _ e3
        subst e1 e3
        exact ⟨g, cur.toList, rfl, hb, by unfold Blk; simpa using hh, by simpa using h5, h6⟩
    have hgl := hg.lt
    have HI : Hid (DelInv L ev dy c k (k + 1) cur) := Lib.hid (DelInv.start hcs htk hk hdk hf)
    have HB1 : Hid (Blk w1 g 103 cur) := Lib.hid (hg.same (same_below HG1.out.below) hgl)
    have HW1 : Hid (w.grownBy w1 (some g)) := Lib.hid (by have := below_grown HG1.out.below; exact ⟨this.os, this.tape, this.output, this.size, fun k hk _ => this.block k hk (by simp)⟩)
    clear hdk hf hg htk hcs HO HG1
    have hneg : (((k : Nat) : Int) == -1) = false := by rw [beq_eq_false_iff_ne]; omega
    go_wp2_with fail
    clear hneg
    go_loopw [5, 6] (fun vi vj wr => ∃ (i j : Nat) (cur : List Value), vi = .int .i64 i ∧ vj = .int .i64 j ∧ i < j ∧ j ≤ L.length ∧ Hid (DelInv L ev dy c i j cur) ∧ Hid (Blk wr g 103 cur) ∧ Hid (w.grownBy wr (some g))) (fun _ vj _ => L.length - (intOf vj).toNat)
    case atStart => exact ⟨k, k + 1, cur, rfl, by go_num, by omega, by omega, HI, HB1, HW1⟩
    case round =>
      clear HI HB1 HW1
      obtain ⟨i, j, cur, rfl, rfl, hij, hjn, HI, HB, HW⟩ := hrel
      by_cases hlt : j < L.length
      · have d0 : wr.cell? ⟨g, j * 3, none⟩ = some (.string (bstr L[j].item)) := by rw [HB.out.cell, HI.out.rest _ (by omega) (by omega)]; exact aud_flat_at L j 0 hlt (by decide)
        have d1 : wr.cell? ⟨g, j * 3 + 1, none⟩ = some (.int .i64 L[j].last) := by rw [HB.out.cell, HI.out.rest _ (by omega) (by omega)]; exact aud_flat_at L j 1 hlt (by decide)
        have d2 : wr.cell? ⟨g, j * 3 + 2, none⟩ = some (.bool L[j].urg) := by rw [HB.out.cell, HI.out.rest _ (by omega) (by omega)]; exact aud_flat_at L j 2 hlt (by decide)
        have HK := Lib.hid (fun hd => HI.out.keep hlt hnc hd)
        have HS := Lib.hid (fun hd => HI.out.skip hlt hd)
        have hcl := HI.out.len
        have hzl : i * 3 + 2 < cur.length := by omega
        generalize L[j] = x at *
        have hbw : be < w.heap.size := by omega
        have hdw : bd < w.heap.size := by omega
        have hglr : g < wr.heap.size := HB.out.lt
        obtain ⟨O, hO⟩ : ∃ O : Obj, O = .cells #[.string (bstr x.item), .int .i64 x.last, .bool x.urg] 103 := ⟨_, rfl⟩
        have HBA : Hid (Below wr.heap.size wr (wr.alloc O)) := Lib.hid ((Below.refl _ _).alloc (Nat.le_refl _) O)
        have hke := (grown_same HW.out).cell (a := ⟨be, 0, none⟩) ⟨hbw, fun e => by injection e with e; dsimp only at e; omega⟩
        have hkd := (grown_same HW.out).cell (a := ⟨bd, 0, none⟩) ⟨hdw, fun e => by injection e with e; dsimp only at e; omega⟩
        have hbr : be < wr.heap.size := Nat.lt_of_lt_of_le hbw HW.out.size
        have hdr : bd < wr.heap.size := Nat.lt_of_lt_of_le hdw HW.out.size
        have hcon := Lib.hid (delA_any x ev dy be bd (wr.alloc O) h1 h2 h3 h4 ((HBA.out.cell (p := ⟨be, 0, none⟩) hbr).trans (hke.trans HE.out)) ((HBA.out.cell (p := ⟨bd, 0, none⟩) hdr).trans (hkd.trans HD.out)))
        have HKX : Hid (Blk (wr.alloc O) wr.heap.size 103 [.string (bstr x.item), .int .i64 x.last, .bool x.urg]) := Lib.hid (by rw [hO]; exact Blk.new wr _ _)
        have HBO := Lib.hid (HB.out.same (same_below HBA.out) hglr)
        have hxl : wr.heap.size < (wr.alloc O).heap.size := by simp
        have kx0 : (wr.alloc O).cell? ⟨wr.heap.size, 0, none⟩ = _ := HKX.out.cell 0
        have kx1 : (wr.alloc O).cell? ⟨wr.heap.size, 1, none⟩ = _ := HKX.out.cell 1
        have kx2 : (wr.alloc O).cell? ⟨wr.heap.size, 2, none⟩ = _ := HKX.out.cell 2
        unfold audCells at hcon
        rw [hO] at kx0 kx1 kx2 hcon
        clear hke hkd hbr hdr hcl
        simp only [List.getElem?_cons_zero, List.getElem?_cons_succ] at kx0 kx1 kx2
        cases hdx : delA x ev dy with
        | true =>
          rw [hdx] at hcon
          have HS2 := Lib.hid (HS.out hdx)
          clear hdx HK HS
          go_wp2_with (go_at_call 58; refine hcon.out.mono ?_; rintro e w2 ⟨rfl, hg2⟩)
          rw [← hO] at hg2
          have HG2 := Lib.hid (show Gr (wr.alloc O) w2 from hg2)
          clear hg2
          go_roundw
          case rel => exact ⟨i, j + 1, cur, rfl, by go_num, by omega, by omega, HS2, HBO.out.same (same_below HG2.out.below) (by rw [World.size_alloc]; omega), grown_more HW.out (HBA.out.trans (HG2.out.below.mono (by simp)))⟩
          case measure => simp [intOf]; omega
        | false =>
          rw [hdx] at hcon
          have HK2 := Lib.hid (HK.out hdx)
          clear hdx HK HS
          go_wp2_with fail
          refine hcon.out.mono ?_
          rintro e w2 ⟨rfl, hg2⟩
          rw [← hO] at hg2
          have HG2 := Lib.hid (show Gr (wr.alloc O) w2 from hg2)
          have hkx := HKX.out.same (same_below HG2.out.below) hxl
          have hb2 := HBO.out.same (same_below HG2.out.below) (by rw [World.size_alloc]; omega)
          have HW2 := Lib.hid (grown_more HW.out (HBA.out.trans (HG2.out.below.mono (by simp))))
          have kx0 : w2.cell? ⟨wr.heap.size, 0, none⟩ = some (.string (bstr x.item)) := hkx.cell 0
          have kx1 : w2.cell? ⟨wr.heap.size, 1, none⟩ = some (.int .i64 x.last) := hkx.cell 1
          have kx2 : w2.cell? ⟨wr.heap.size, 2, none⟩ = some (.bool x.urg) := hkx.cell 2
          have g0 := (hb2.cell (i * 3)).trans (List.getElem?_eq_getElem (by omega))
          have g1 := (hb2.cell (i * 3 + 1)).trans (List.getElem?_eq_getElem (by omega))
          have g2 := (hb2.cell (i * 3 + 2)).trans (List.getElem?_eq_getElem (by omega))
          have z0 := hb2.frozen (i * 3)
          have z1 := hb2.frozen (i * 3 + 1)
          have z2 := hb2.frozen (i * 3 + 2)
          have HB3 := Lib.hid (((hb2.set_ (i * 3) (.string (bstr x.item))).set_ (i * 3 + 1) (.int .i64 x.last)).set_ (i * 3 + 2) (.bool x.urg))
          have HW3 := Lib.hid (grown_set (grown_set (grown_set HW2.out (i * 3) (.string (bstr x.item))) (i * 3 + 1) (.int .i64 x.last)) (i * 3 + 2) (.bool x.urg))
          generalize cur[i * 3]'(by omega) = y0 at g0
          generalize cur[i * 3 + 1]'(by omega) = y1 at g1
          generalize cur[i * 3 + 2]'(by omega) = y2 at g2
          clear hg2 hkx hb2 HB HBO HKX hcon hO
          go_wp2_with fail
          go_roundw
          case rel => exact ⟨i + 1, j + 1, _, by go_num, by go_num, by omega, by omega, HK2, HB3, HW3⟩
          case measure => simp [intOf]; omega
      · obtain rfl : j = L.length := by omega
        have hcl := HI.out.len
        have hic := HI.out.cnt
        have hip := HI.out.pre
        rw [List.take_length] at hic hip
        obtain ⟨zs, hzl, hrun⟩ := run_clear_rowK (P := Tryd.prog) wr 49 103 (.agg #[.string ⟨#[]⟩, .int .i64 0, .bool false]) Tryd.underlying49 Tryd.zeroValue103 (fun u hu => by simp [Value.cells] at hu; rcases hu with rfl | rfl | rfl <;> rfl) g (i * 3) (L.length - i) (c - i) cur 103 HB.out (by omega) (by
          show i * 3 + (L.length - i) * 3 ≤ cur.length
          omega)
        have hzl3 : zs.length = (L.length - i) * 3 := hzl
        simp only [List.append_assoc] at hrun
        have HR := Lib.hid hrun
        have HP : Hid (DelPost B (.slice (some ⟨g, 0, none⟩) L.length c) L ev dy w (.returned (.slice (some ⟨g, 0, none⟩) i c)) (wr.setRow g (cur.take (i * 3) ++ (zs ++ cur.drop (i * 3 + zs.length))).toArray)) := Lib.hid (by
          have hg2 := setRow_heap wr g cur.toArray (cur.take (i * 3) ++ (zs ++ cur.drop (i * 3 + zs.length))).toArray _ _ HB.out
          have htl : (cur.take (i * 3)).length = i * 3 := by rw [List.length_take]; omega
          refine ⟨_, rfl, ?_, grown_row HW.out _⟩
          rw [hic]
          refine ⟨by rw [aud_flat_len, hic], .inr ⟨g, c, _, rfl, hBg, hg2, by omega, by unfold maxLen; omega, ?_, ?_⟩⟩
          · simp only [List.size_toArray, List.length_append, List.length_drop, htl]
            omega
          · rw [← hip]
            exact List.take_left' htl)
        clear hrun hzl hzl3 hcl hic hip HI HB HW HE HD
        have hci : ¬ c = i := by omega
        go_wp2_with (with_reducible refine wpList_clear_runK _ rfl (.tmp 38) 49 rfl _ rfl (HR.out _) ?_)
        go_ret
        exact HP.out
end Go.Proofs.YtbafnemcdhdagaaDoor
