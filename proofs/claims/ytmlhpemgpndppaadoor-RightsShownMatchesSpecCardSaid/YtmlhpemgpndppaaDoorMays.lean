/-
  What was shown may be seen: 'may' of package rights over a map of eyes.
-/
import Derived.Test.YtmlhpemgpndppaaDoorMay2
import Derived.Test.YtmlhpemgpndppaaDoorVMap
import Derived.Test.YtmlhpemgpndppaaDoorShown
import Derived.Test.YtmlhpemgpndppaaDoorCloneR
namespace Go.Proofs.YtmlhpemgpndppaaDoor
open Go.RowKit
set_option linter.unusedVariables false
set_option linter.unusedSimpArgs false

theorem vwr_law : Maps.Keyed Tryd.prog 25 := Maps.Keyed.of_law (deep_law_laid (by kernel_rfl) (m := 2) (by omega) (of_decide_eq_true (by kernel_rfl)) (by kernel_rfl) (by kernel_rfl))
theorem vwr_key (a : ByteArray) (ha : a.size ≤ maxLen) (h : Bool) : ∃ kl, keyOf Tryd.prog 25 (.agg #[.string a, .bool h]) = some kl := by
  have h1 : Tryd.prog.keyType 25 = true := by kernel_rfl
  have h2 : (Value.agg #[.string a, .bool h]).formed Tryd.prog 25 = true := by kernel_rfl
  obtain ⟨m, hm⟩ : ∃ m, Tryd.prog.types.size = m + 1 := ⟨Tryd.prog.types.size - 1, by kernel_rfl⟩
  refine ⟨.string (keyBytes [.string a.data.toList, .bool h]), ?_⟩
  unfold keyOf
  rw [Tryd.underlying25, h1, h2, hm]
  simp only [Bool.and_self, if_true, Program.keyLits, Tryd.underlying25]
  have c1 : Tryd.prog.cellsOf 25 = 2 := by kernel_rfl
  have c2 : Tryd.prog.cellsOf 9 = 1 := by kernel_rfl
  have c3 : Tryd.prog.cellsOf 4 = 1 := by kernel_rfl
  simp [c1, c2, c3, Value.cells, Tryd.underlying9, Tryd.underlying4, ha]
theorem row_ne {w : World} {B B' : Nat} {e e' : TypeId} {sz sz' : Nat} {v v' : Value} {n n' : Nat} {xs xs' : List Value} (h : w.ownsRow B e sz v n xs) (h' : w.ownsRow B' e' sz' v' n' xs') (hne : e ≠ e') : v.ownBlock = none ∨ v.ownBlock ≠ v'.ownBlock := by
  rcases h.2 with ⟨rfl, _⟩ | ⟨g, cap, cur, rfl, _, hg, _⟩
  · exact .inl rfl
  · right
    rcases h'.2 with ⟨rfl, _⟩ | ⟨g', cap', cur', rfl, _, hg', _⟩
    · simp [Value.ownBlock]
    · intro e1
      obtain rfl : g = g' := by simpa [Value.ownBlock] using e1
      rw [hg] at hg'
      simp only [Option.some.injEq, Obj.cells.injEq] at hg'
      exact hne hg'.2.1
def EyeOk (t : List Team) (w : World) (who : List UInt8) (house : Bool) (v : Value) : Prop :=
  ∃ A c B, v = .agg #[.bool house, .slice A (eyeT t who t.length).length c] ∧ w.ownsRow B 9 1 (.slice A (eyeT t who t.length).length c) (eyeT t who t.length).length (strs (eyeT t who t.length))
def ZE0 : Value := (.agg #[.bool false, .slice none 0 0])
structure MSt (t : List Team) (vt vl : Value) (mb b n : Nat) (f : Lit → Option Value) (w : World) : Prop where
  blk : Blk w mb 85 [vt, vl, .map (some b)]
  map : VMap Tryd.prog 25 ZE0 w b n f
  eye : ∀ who house kl v, keyOf Tryd.prog 25 (.agg #[.string (bstr who), .bool house]) = some kl → f kl = some v → EyeOk t w who house v
section
variable {t : List Team} {vt vl : Value} {mb b n : Nat} {f : Lit → Option Value} {w w' : World}
theorem MSt.grown {row : Option Nat} (h : MSt t vt vl mb b n f w) (hg : w.grownBy w' row) (h1 : some mb ≠ row) (h2 : some b ≠ row)
    (h3 : ∀ v B k xs, w.ownsRow B 9 1 v k xs → v.ownBlock = none ∨ v.ownBlock ≠ row) : MSt t vt vl mb b n f w' :=
  ⟨h.blk.same (grown_same hg) ⟨h.blk.lt, h1⟩, h.map.grown hg h2, fun who house kl v hk hf => by
    obtain ⟨A, c, B, e, ho⟩ := h.eye who house kl v hk hf
    exact ⟨A, c, B, e, ho.kept hg (h3 _ _ _ _ ho)⟩⟩
theorem MSt.below (h : MSt t vt vl mb b n f w) (hb : Below w.heap.size w w') : MSt t vt vl mb b n f w' :=
  h.grown (below_grown hb) (by simp) (by simp) (fun v _ _ _ _ => by cases hv : v.ownBlock <;> simp)
theorem eye_names {w : World} {who : List UInt8} {house : Bool} {v : Value} (hn : ∀ x ∈ t, x.name.length ≤ maxLen) (h : EyeOk t w who house v) : ∃ A c, v = .agg #[.bool house, .slice A (eyeT t who t.length).length c] ∧ namesRp.ok w (· < w.heap.size) [.slice A (eyeT t who t.length).length c] (eyeT t who t.length) := by
  obtain ⟨A, c, B, e, ho⟩ := h
  refine ⟨A, c, e, ?_⟩
  refine Rp.str_own (B := B) (e := 9) (n := (eyeT t who t.length).length) ?_ (fun x hx => ?_) (fun g hg => (ho.lt g hg).2)
  · unfold strs at ho
    rw [List.map_map]; exact ho
  · obtain ⟨z, hz, rfl⟩ := List.mem_map.1 hx
    unfold eyeT at hz
    split at hz
    · cases hz
    · exact teamsOf_name hn t.length (Nat.le_refl _) z hz
theorem MSt.put {who : List UInt8} {house : Bool} {kl : Lit} {v : Value} (h : MSt t vt vl mb b n f w) (hk : keyOf Tryd.prog 25 (.agg #[.string (bstr who), .bool house]) = some kl) (hv : EyeOk t w who house v)
    (hm : VMap Tryd.prog 25 ZE0 w' b (n + 1) (fun x => if x.sameKey kl then some v else f x)) (hg : w.grownBy w' (some b)) (hmb : mb ≠ b) : MSt t vt vl mb b (n + 1) (fun x => if x.sameKey kl then some v else f x) w' := by
  refine ⟨h.blk.same (grown_same hg) ⟨h.blk.lt, fun e => hmb (Option.some.inj e)⟩, hm, fun who' house' kl' v' hk' hf' => ?_⟩
  have keep : ∀ who house u, EyeOk t w who house u → EyeOk t w' who house u := fun who house u ⟨A, c, B, e, ho⟩ => ⟨A, c, B, e, ho.kept hg (.inr (h.map.notRow ho).symm)⟩
  by_cases e : kl' = kl
  · subst e
    rw [if_pos (WideAt.sameKey_self (vwr_law.key hk'))] at hf'
    have e2 := vwr_law.inj hk' hk
    injection e2 with e2
    have e3 := Array.toList_inj.2 e2
    injection e3 with e3 e4
    injection e3 with e3
    injection e4 with e4
    injection e4 with e4
    obtain rfl := bstr_inj e3
    subst e4
    cases hf'
    exact keep _ _ _ hv
  · rw [if_neg (by rw [Maps.sameKey_ne e]; simp)] at hf'
    exact keep _ _ _ (h.eye who' house' kl' v' hk' hf')
end
theorem step_vmap_update {P : Program} {K E : TypeId} {z : Value} {w : World} {b n : Nat} {f : Lit → Option Value} {ops : Array Oper} {o : Oper} {a : Act} {Q : Exit → Act → World → Prop} {K' : Act → World → Prop} {E' : Prop} (hg : o.guard = none) (m x v : Operand) (T : TypeId) (hop : o.op = Op.mapUpdate T m x v)
    (h : VMap P K z w b n f) (KL : Maps.Keyed P K) (ht : P.underlying T = some (.map K E)) (hn : n < maxLen) {key : Value} (kl : Lit) (c : Value)
    (hm : a.eval m = .map (some b)) (hx : a.eval x = key) (hv : a.eval v = c) (hkey : keyOf P K key = some kl) (hk : WideAt.IsKeyLit kl)
    (hK : ∀ w', Hid (VMap P K z w' b (n + 1) (fun x => if x.sameKey kl then some c else f x)) → Hid (w.grownBy w' (some b)) → K' (a.put o.dst undef) w') :
    if Region.wanted o (yielded ops a.tmps) = true then Oper.wp P o a w K' Q else E' := by
  have hw : Region.wanted o (yielded ops a.tmps) = true := by simp [Region.wanted, hg]
  rw [if_pos hw]
  obtain ⟨w', hrun, r1, r2⟩ := h.put KL ht hn c hkey hk
  unfold Oper.wp
  simp [execOp, hop, hm, hx, hv, hrun, Result.andThen]
  exact hK w' r1 r2
noncomputable def mayS (t : List Team) (l : List Rgt) (x : Shn) (at_ : Int) : Bool := mayT l (eyeT t x.who t.length) x.house ⟨x.key, x.time⟩ at_
def MayPost (t : List Team) (l : List Rgt) (x : Shn) (at_ : Int) (vt vl : Value) (mb b n : Nat) (w : World) (e : Ending) (w' : World) : Prop :=
  e = .returned (.bool (mayS t l x at_)) ∧ w.grownBy w' (some b) ∧ ∃ m f', m ≤ n + 1 ∧ MSt t vt vl mb b m f' w'
set_option maxRecDepth 100000 in
set_option maxHeartbeats 2000000 in
theorem maysMay_any (t : List Team) (l : List Rgt) (x : Shn) (at_ : Int) (vt vl : Value) (mb b n : Nat) (f : Lit → Option Value) (w : World) (B : Nat) (ht : (Rp.sl teamRp).ok w (· < B) [vt] t) (h0 : (Rp.sl rgtRp).ok w (· < B) [vl] l) (hg : TGood t) (hm : l.length ≤ 1000) (hBb : B ≤ b)
    (hM : MSt t vt vl mb b n f w) (hn : n < 1000000) (hmb : mb ≠ b) (hxw : x.who.length ≤ maxLen) (hxk : x.key.length ≤ maxLen) :
    Calls Tryd.prog 58 #[.pointer (some ⟨mb, 0, none⟩), .agg #[.int .i64 x.at_, .string (bstr x.who), .bool x.house, .string (bstr x.key), .int .i64 x.time], .int .i64 at_] w (MayPost t l x at_ vt vl mb b n w) := by
  obtain ⟨kl, hkl⟩ := vwr_key (bstr x.who) hxw x.house
  have HKL := Lib.hid hkl
  have HKI := Lib.hid (vwr_law.key hkl)
  have HNM := Lib.hid (names_len ht)
  have HT := Lib.hid ht
  have H0 := Lib.hid h0
  have HTG := Lib.hid hg
  have HM := Lib.hid hM
  have hmw := hM.blk.lt
  have hbw := hM.map.lt
  have HZ : Hid (∀ w, (zeroValue 69).run Tryd.prog w = .ok ZE0 w) := Lib.hid (fun w => by kernel_rfl)
  clear hkl ht h0 hg hM
  have hl0 := (Below.refl w.heap.size _).alloc (Nat.le_refl _) (.cells #[.int .i64 x.at_, .string (bstr x.who), .bool x.house, .string (bstr x.key), .int .i64 x.time] 50)
  have hl1 := (Below.refl (w.alloc (.cells #[.int .i64 x.at_, .string (bstr x.who), .bool x.house, .string (bstr x.key), .int .i64 x.time] 50)).heap.size _).alloc (Nat.le_refl _) (.cells #[.string (bstr x.who), .bool x.house] 25)
  have HBA : Hid (Below w.heap.size w ((w.alloc (.cells #[.int .i64 x.at_, .string (bstr x.who), .bool x.house, .string (bstr x.key), .int .i64 x.time] 50)).alloc (.cells #[.string (bstr x.who), .bool x.house] 25))) := Lib.hid ((hl0).trans (hl1.mono (by simp <;> omega)))
  have hk0 : Blk ((w.alloc (.cells #[.int .i64 x.at_, .string (bstr x.who), .bool x.house, .string (bstr x.key), .int .i64 x.time] 50)).alloc (.cells #[.string (bstr x.who), .bool x.house] 25)) (w.heap.size) 50 [.int .i64 x.at_, .string (bstr x.who), .bool x.house, .string (bstr x.key), .int .i64 x.time] := by
    have h := (Blk.new w 50 [.int .i64 x.at_, .string (bstr x.who), .bool x.house, .string (bstr x.key), .int .i64 x.time]).same (same_below hl1) (by simp <;> omega)
    simpa only [World.size_alloc] using h
  have HKXA := Lib.hid hk0
  have hk1 : Blk ((w.alloc (.cells #[.int .i64 x.at_, .string (bstr x.who), .bool x.house, .string (bstr x.key), .int .i64 x.time] 50)).alloc (.cells #[.string (bstr x.who), .bool x.house] 25)) (w.heap.size + 1) 25 [.string (bstr x.who), .bool x.house] := by
    have h := Blk.new (w.alloc (.cells #[.int .i64 x.at_, .string (bstr x.who), .bool x.house, .string (bstr x.key), .int .i64 x.time] 50)) 25 [.string (bstr x.who), .bool x.house]
    simpa only [World.size_alloc] using h
  have HKVA := Lib.hid hk1
  clear hl0 hk0 hl1 hk1
  have HM2 := Lib.hid (HM.out.below HBA.out)
  go_enter Tryd.func58, Tryd.ntmps58
  have x0 : (w.alloc (.cells #[.int .i64 x.at_, .string (bstr x.who), .bool x.house, .string (bstr x.key), .int .i64 x.time] 50)).cell? ⟨w.heap.size, 0, none⟩ = some (.int .i64 x.at_) := (Blk.new w 50 [.int .i64 x.at_, .string (bstr x.who), .bool x.house, .string (bstr x.key), .int .i64 x.time]).cell 0
  have x1 : (w.alloc (.cells #[.int .i64 x.at_, .string (bstr x.who), .bool x.house, .string (bstr x.key), .int .i64 x.time] 50)).cell? ⟨w.heap.size, 1, none⟩ = some (.string (bstr x.who)) := (Blk.new w 50 [.int .i64 x.at_, .string (bstr x.who), .bool x.house, .string (bstr x.key), .int .i64 x.time]).cell 1
  have x2 : (w.alloc (.cells #[.int .i64 x.at_, .string (bstr x.who), .bool x.house, .string (bstr x.key), .int .i64 x.time] 50)).cell? ⟨w.heap.size, 2, none⟩ = some (.bool x.house) := (Blk.new w 50 [.int .i64 x.at_, .string (bstr x.who), .bool x.house, .string (bstr x.key), .int .i64 x.time]).cell 2
  have x3 : (w.alloc (.cells #[.int .i64 x.at_, .string (bstr x.who), .bool x.house, .string (bstr x.key), .int .i64 x.time] 50)).cell? ⟨w.heap.size, 3, none⟩ = some (.string (bstr x.key)) := (Blk.new w 50 [.int .i64 x.at_, .string (bstr x.who), .bool x.house, .string (bstr x.key), .int .i64 x.time]).cell 3
  have x4 : (w.alloc (.cells #[.int .i64 x.at_, .string (bstr x.who), .bool x.house, .string (bstr x.key), .int .i64 x.time] 50)).cell? ⟨w.heap.size, 4, none⟩ = some (.int .i64 x.time) := (Blk.new w 50 [.int .i64 x.at_, .string (bstr x.who), .bool x.house, .string (bstr x.key), .int .i64 x.time]).cell 4
  go_wp2_with fail
  clear x0 x1 x2 x3 x4
  generalize ((w.alloc (.cells #[.int .i64 x.at_, .string (bstr x.who), .bool x.house, .string (bstr x.key), .int .i64 x.time] 50)).alloc (.cells #[.string (bstr x.who), .bool x.house] 25)) = w2 at *
  obtain ⟨vb, hvb⟩ : ∃ vb, vb = w.heap.size + 1 := ⟨_, rfl⟩
  have HVB := Lib.hid hvb
  rw [← hvb] at HKVA ⊢
  clear hvb
  have hA2 := HBA.out.size
  have hvl : vb < w2.heap.size := HKVA.out.lt
  have hxl : w.heap.size < w2.heap.size := HKXA.out.lt
  have HGR2 : Hid (w.grownBy w2 (some b)) := Lib.hid ((below_grown HBA.out).but _)
  have HBB2 : Hid (Below B w w2) := Lib.hid (HBA.out.mono (by omega))
  have hxk2 : x.key.length ≤ 9223372036854775807 := hxk
  have hBw : B ≤ w.heap.size := by omega
  cases hfk : f kl with
  | some ve =>
    obtain ⟨Ae, ce, Be, hve, hoe⟩ := HM2.out.eye _ _ _ _ HKL.out hfk
    subst hve
    have HOE := Lib.hid hoe
    clear hoe
    have KEEP : Hid (∀ w', Below w2.heap.size w2 w' → (w'.cell? ⟨mb, 2, none⟩ = some (.map (some b)) ∧ w'.cell? ⟨vb, 0, none⟩ = some (.string (bstr x.who)) ∧ w'.cell? ⟨vb, 1, none⟩ = some (.bool x.house) ∧ Sem.run Tryd.prog (Instr.lookup 83 (.map (some b)) (.agg #[.string (bstr x.who), .bool x.house]) true) w' = .ok (.tuple #[.agg #[.bool x.house, .slice Ae (eyeT t x.who t.length).length ce], .bool true]) w')) := Lib.hid (fun w' hg => by
      have h1 := HM2.out.below hg
      have h2 := HKVA.out.same (same_below hg) HKVA.out.lt
      have h3 := h1.map.look_ok vwr_law Tryd.underlying83 HZ.out HKL.out HKI.out
      rw [hfk] at h3
      exact ⟨h1.blk.cell 2, h2.cell 0, h2.cell 1, h3⟩)
    refine wp_region_held_drew (S := fun w' => w'.cell? ⟨mb, 2, none⟩ = some (.map (some b)) ∧ w'.cell? ⟨vb, 0, none⟩ = some (.string (bstr x.who)) ∧ w'.cell? ⟨vb, 1, none⟩ = some (.bool x.house) ∧ Sem.run Tryd.prog (Instr.lookup 83 (.map (some b)) (.agg #[.string (bstr x.who), .bool x.house]) true) w' = .ok (.tuple #[.agg #[.bool x.house, .slice Ae (eyeT t x.who t.length).length ce], .bool true]) w') (by kernel_rfl) (KEEP.out _ (Below.drew (Below.refl _ _))) (fun hHeld => ?_)
    obtain ⟨wq, hwq⟩ : ∃ wq, wq = World.drew w2 := ⟨_, rfl⟩
    have HG0 : Hid (Below w2.heap.size w2 wq) := Lib.hid (by rw [hwq]; exact Below.drew (Below.refl _ _))
    rw [← hwq] at hHeld ⊢
    clear hwq
    refine wpAnyH_take (i := 0) (v := ?_) rfl (by kernel_rfl) (by kernel_rfl) (by kernel_rfl) (fun _ _ _ h => h) (Or.inl ⟨by rfl, ?_⟩) (by assumption) ?_
    rotate_left
    · (intro w hSw; (try dsimp only at hSw); go_simp; try with_reducible rfl)
    try simp only [List.getElem_toArray, List.getElem_cons_succ, List.getElem_cons_zero, Act.put, List.setIfInBounds_toArray, List.set_cons_zero, List.set_cons_succ]
    refine wpAnyH_take (i := 1) (v := ?_) rfl (by kernel_rfl) (by kernel_rfl) (by kernel_rfl) (fun _ _ _ h => h) (Or.inl ⟨by rfl, ?_⟩) (by assumption) ?_
    rotate_left
    · (intro w hSw; (try dsimp only at hSw); go_simp; try with_reducible rfl)
    try simp only [List.getElem_toArray, List.getElem_cons_succ, List.getElem_cons_zero, Act.put, List.setIfInBounds_toArray, List.set_cons_zero, List.set_cons_succ]
    refine wpAnyH_take (i := 2) (v := ?_) rfl (by kernel_rfl) (by kernel_rfl) (by kernel_rfl) (fun _ _ _ h => h) (Or.inl ⟨by rfl, ?_⟩) (by assumption) ?_
    rotate_left
    · (intro w hSw; (try dsimp only at hSw); go_simp; try with_reducible rfl)
    try simp only [List.getElem_toArray, List.getElem_cons_succ, List.getElem_cons_zero, Act.put, List.setIfInBounds_toArray, List.set_cons_zero, List.set_cons_succ]
    refine wpAnyH_take (i := 3) (v := ?_) rfl (by kernel_rfl) (by kernel_rfl) (by kernel_rfl) (fun _ _ _ h => h) (Or.inl ⟨by rfl, ?_⟩) (by assumption) ?_
    rotate_left
    · (intro w hSw; (try dsimp only at hSw); go_simp; try with_reducible rfl)
    try simp only [List.getElem_toArray, List.getElem_cons_succ, List.getElem_cons_zero, Act.put, List.setIfInBounds_toArray, List.set_cons_zero, List.set_cons_succ]
    refine wpAnyH_take (i := 4) (v := ?_) rfl (by kernel_rfl) (by kernel_rfl) (by kernel_rfl) (fun _ _ _ h => h) (Or.inl ⟨by rfl, ?_⟩) (by assumption) ?_
    rotate_left
    · (intro w hSw; (try dsimp only at hSw); go_simp; try with_reducible rfl)
    try simp only [List.getElem_toArray, List.getElem_cons_succ, List.getElem_cons_zero, Act.put, List.setIfInBounds_toArray, List.set_cons_zero, List.set_cons_succ]
    refine wpAnyH_take (i := 5) (v := ?_) rfl (by kernel_rfl) (by kernel_rfl) (by kernel_rfl) (fun _ _ _ h => h) (Or.inl ⟨by rfl, ?_⟩) (by assumption) ?_
    rotate_left
    · (intro w hSw; (try dsimp only at hSw); go_simp; try with_reducible rfl)
    try simp only [List.getElem_toArray, List.getElem_cons_succ, List.getElem_cons_zero, Act.put, List.setIfInBounds_toArray, List.set_cons_zero, List.set_cons_succ]
    refine wpAnyH_take (i := 6) (v := ?_) rfl (by kernel_rfl) (by kernel_rfl) (by kernel_rfl) (fun _ _ _ h => h) (Or.inl ⟨by rfl, ?_⟩) (by assumption) ?_
    rotate_left
    · (intro w hSw; (try dsimp only at hSw); go_simp; try with_reducible rfl)
    try simp only [List.getElem_toArray, List.getElem_cons_succ, List.getElem_cons_zero, Act.put, List.setIfInBounds_toArray, List.set_cons_zero, List.set_cons_succ]
    refine wpAnyH_take (i := 7) (v := ?_) rfl (by kernel_rfl) (by kernel_rfl) (by kernel_rfl) (fun _ _ _ h => h) (Or.inl ⟨by rfl, ?_⟩) (by assumption) ?_
    rotate_left
    · (intro w hSw; (try dsimp only at hSw); go_simp; try with_reducible rfl)
    try simp only [List.getElem_toArray, List.getElem_cons_succ, List.getElem_cons_zero, Act.put, List.setIfInBounds_toArray, List.set_cons_zero, List.set_cons_succ]
    refine wpAnyH_take (i := 8) (v := ?_) rfl (by kernel_rfl) (by kernel_rfl) (by kernel_rfl) (fun _ _ _ h => h) (Or.inl ⟨by rfl, ?_⟩) (by assumption) ?_
    rotate_left
    · (intro w hSw; (try dsimp only at hSw); go_simp; try with_reducible rfl)
    try simp only [List.getElem_toArray, List.getElem_cons_succ, List.getElem_cons_zero, Act.put, List.setIfInBounds_toArray, List.set_cons_zero, List.set_cons_succ]
    have hal := (Below.refl wq.heap.size wq).alloc (Nat.le_refl _) (.cells #[.bool false, .slice none 0 0] 69)
    have HGA : Hid (Below w2.heap.size w2 (wq.alloc (.cells #[.bool false, .slice none 0 0] 69))) := Lib.hid (HG0.out.trans (hal.mono HG0.out.size))
    have hkn := Blk.new wq 69 [.bool false, .slice none 0 0]
    have HKN := Lib.hid hkn
    clear hal
    refine wpAnyH_ready (rs := [9]) (by kernel_rfl) (by simp) ?_
    refine AllReadyH.cons rfl (fun K hK => ?_) AllReadyH.nil
    rw [if_pos (by rfl)]
    simp only [List.getElem_toArray, List.getElem_cons_succ, List.getElem_cons_zero]
    go_simp
    refine hK.out _ _ (KEEP.out _ HGA.out) (fun hHeld => ?_)
    clear hK K
    try simp only [List.getElem_toArray, List.getElem_cons_succ, List.getElem_cons_zero, Act.put, List.setIfInBounds_toArray, List.set_cons_zero, List.set_cons_succ]
    have n0 := hkn.cell 0
    have n1 := hkn.cell 1
    have z0 := hkn.frozen 0
    have z1 := hkn.frozen 1
    clear hkn
    have HKE3 := Lib.hid (Blk.new wq 69 [.bool x.house, .slice Ae (eyeT t x.who t.length).length ce])
    have HG3 : Hid (Below w2.heap.size w2 (wq.alloc (.cells #[.bool x.house, .slice Ae (eyeT t x.who t.length).length ce] 69))) := Lib.hid (HG0.out.trans (((Below.refl wq.heap.size wq).alloc (Nat.le_refl _) _).mono HG0.out.size))
    refine wpAnyH_ready (rs := [10]) (by kernel_rfl) (by simp) ?_
    refine AllReadyH.cons rfl (fun K hK => ?_) AllReadyH.nil
    rw [if_pos (by rfl)]
    simp only [List.getElem_toArray, List.getElem_cons_succ, List.getElem_cons_zero]
    go_simp
    refine hK.out _ _ (KEEP.out _ HG3.out) (fun hHeld => ?_)
    clear hK K
    try simp only [List.getElem_toArray, List.getElem_cons_succ, List.getElem_cons_zero, Act.put, List.setIfInBounds_toArray, List.set_cons_zero, List.set_cons_succ]
    refine wpAnyH_take (i := 11) (v := ?_) rfl (by kernel_rfl) (by kernel_rfl) (by kernel_rfl) (fun _ _ _ h => h) (Or.inl ⟨by rfl, ?_⟩) (by assumption) ?_
    rotate_left
    · (intro w hSw; (try dsimp only at hSw); go_simp; try with_reducible rfl)
    try simp only [List.getElem_toArray, List.getElem_cons_succ, List.getElem_cons_zero, Act.put, List.setIfInBounds_toArray, List.set_cons_zero, List.set_cons_succ]
    refine wpAnyH_done (by kernel_rfl) ?_ _
    clear hHeld KEEP n0 n1 z0 z1
    have hG3 := HG3.out.size
    have hQ := HG0.out.size
    obtain ⟨eb, heb⟩ : ∃ eb, eb = wq.heap.size := ⟨_, rfl⟩
    rw [← heb] at HKE3 ⊢
    have heb2 : w2.heap.size ≤ eb := by rw [heb]; exact hQ
    generalize wq.alloc (.cells #[.bool x.house, .slice Ae (eyeT t x.who t.length).length ce] 69) = w3 at *
    clear HKN HGA HG0 heb hQ
    have HGR3 : Hid (w.grownBy w3 (some b)) := Lib.hid (HGR2.out.andThen (below_grown HG3.out) (by simp))
    have HBB3 : Hid (Below B w w3) := Lib.hid (HBB2.out.trans (HG3.out.mono (by omega)))
    have HM3 := Lib.hid (HM2.out.below HG3.out)
    have HKX3 := Lib.hid (HKXA.out.same (same_below HG3.out) HKXA.out.lt)
    have HKV3 := Lib.hid (HKVA.out.same (same_below HG3.out) HKVA.out.lt)
    clear HGR2 HBB2 HM2 HKXA HKVA
    have HEO : Hid (EyeOk t w3 x.who x.house (.agg #[.bool x.house, .slice Ae (eyeT t x.who t.length).length ce])) := Lib.hid ⟨Ae, ce, Be, rfl, HOE.out.kept (below_grown HG3.out) (by cases hv : (Value.slice Ae (eyeT t x.who t.length).length ce).ownBlock <;> simp)⟩
    clear HOE hfk
    have KEEP : Hid (∀ w', Below w3.heap.size w3 w' → (w'.cell? ⟨mb, 1, none⟩ = some vl ∧ w'.cell? ⟨eb, 0, none⟩ = some (.bool x.house) ∧ w'.cell? ⟨eb, 1, none⟩ = some (.slice Ae (eyeT t x.who t.length).length ce) ∧ w'.cell? ⟨w.heap.size, 3, none⟩ = some (.string (bstr x.key)) ∧ w'.cell? ⟨w.heap.size, 4, none⟩ = some (.int .i64 x.time))) := Lib.hid (fun w' hg => by
      have h1 := HM3.out.below hg
      have h2 := HKE3.out.same (same_below hg) HKE3.out.lt
      have h3 := HKX3.out.same (same_below hg) HKX3.out.lt
      exact ⟨h1.blk.cell 1, h2.cell 0, h2.cell 1, h3.cell 3, h3.cell 4⟩)
    have HMA : Hid (∀ W, Below w3.heap.size w3 W → Calls Tryd.prog 41 #[.agg #[.bool x.house, .slice Ae (eyeT t x.who t.length).length ce], vl, .agg #[.string (bstr x.key), .int .i64 x.time], .int .i64 at_] W fun e w' => e = .returned (.bool (mayS t l x at_)) ∧ Below W.heap.size W w') := Lib.hid (fun W hW => by
      obtain ⟨A', c', e', hn'⟩ := eye_names HNM.out (HEO.out : EyeOk t w3 x.who x.house (.agg #[.bool x.house, .slice Ae (eyeT t x.who t.length).length ce]))
      have e2 := e'
      injection e2 with e2
      have e3 := Array.toList_inj.2 e2
      injection e3 with _ e3
      injection e3 with e3
      rw [← e3] at hn'
      exact may_any _ _ x.house vl l ⟨x.key, x.time⟩ at_ W (Rp.ext _ hn' hW) (Rp.sub _ (Rp.below _ H0.out (HBB3.out.trans (hW.mono (Nat.le_trans hBw HGR3.out.size)))) (fun k hk => Nat.lt_of_lt_of_le hk (Nat.le_trans hBw (Nat.le_trans HGR3.out.size hW.size)))) hm hxk2)
    go_wp2_with fail
    refine wp_region_held_drew (S := fun w' => w'.cell? ⟨mb, 1, none⟩ = some vl ∧ w'.cell? ⟨eb, 0, none⟩ = some (.bool x.house) ∧ w'.cell? ⟨eb, 1, none⟩ = some (.slice Ae (eyeT t x.who t.length).length ce) ∧ w'.cell? ⟨w.heap.size, 3, none⟩ = some (.string (bstr x.key)) ∧ w'.cell? ⟨w.heap.size, 4, none⟩ = some (.int .i64 x.time)) (by kernel_rfl) (KEEP.out _ (Below.drew (Below.refl _ _))) (fun hHeld => ?_)
    obtain ⟨wq, hwq⟩ : ∃ wq, wq = World.drew w3 := ⟨_, rfl⟩
    have HG0 : Hid (Below w3.heap.size w3 wq) := Lib.hid (by rw [hwq]; exact Below.drew (Below.refl _ _))
    rw [← hwq] at hHeld ⊢
    clear hwq
    refine wpAnyH_take (i := 0) (v := ?_) rfl (by kernel_rfl) (by kernel_rfl) (by kernel_rfl) (fun _ _ _ h => h) (Or.inl ⟨by rfl, ?_⟩) (by assumption) ?_
    rotate_left
    · (intro w hSw; (try dsimp only at hSw); go_simp; try with_reducible rfl)
    try simp only [List.getElem_toArray, List.getElem_cons_succ, List.getElem_cons_zero, Act.put, List.setIfInBounds_toArray, List.set_cons_zero, List.set_cons_succ]
    refine wpAnyH_take (i := 1) (v := ?_) rfl (by kernel_rfl) (by kernel_rfl) (by kernel_rfl) (fun _ _ _ h => h) (Or.inl ⟨by rfl, ?_⟩) (by assumption) ?_
    rotate_left
    · (intro w hSw; (try dsimp only at hSw); go_simp; try with_reducible rfl)
    try simp only [List.getElem_toArray, List.getElem_cons_succ, List.getElem_cons_zero, Act.put, List.setIfInBounds_toArray, List.set_cons_zero, List.set_cons_succ]
    refine wpAnyH_take (i := 2) (v := ?_) rfl (by kernel_rfl) (by kernel_rfl) (by kernel_rfl) (fun _ _ _ h => h) (Or.inl ⟨by rfl, ?_⟩) (by assumption) ?_
    rotate_left
    · (intro w hSw; (try dsimp only at hSw); go_simp; try with_reducible rfl)
    try simp only [List.getElem_toArray, List.getElem_cons_succ, List.getElem_cons_zero, Act.put, List.setIfInBounds_toArray, List.set_cons_zero, List.set_cons_succ]
    refine wpAnyH_take (i := 3) (v := ?_) rfl (by kernel_rfl) (by kernel_rfl) (by kernel_rfl) (fun _ _ _ h => h) (Or.inl ⟨by rfl, ?_⟩) (by assumption) ?_
    rotate_left
    · (intro w hSw; (try dsimp only at hSw); go_simp; try with_reducible rfl)
    try simp only [List.getElem_toArray, List.getElem_cons_succ, List.getElem_cons_zero, Act.put, List.setIfInBounds_toArray, List.set_cons_zero, List.set_cons_succ]
    refine wpAnyH_take (i := 4) (v := ?_) rfl (by kernel_rfl) (by kernel_rfl) (by kernel_rfl) (fun _ _ _ h => h) (Or.inl ⟨by rfl, ?_⟩) (by assumption) ?_
    rotate_left
    · (intro w hSw; (try dsimp only at hSw); go_simp; try with_reducible rfl)
    try simp only [List.getElem_toArray, List.getElem_cons_succ, List.getElem_cons_zero, Act.put, List.setIfInBounds_toArray, List.set_cons_zero, List.set_cons_succ]
    refine wpAnyH_take (i := 5) (v := ?_) rfl (by kernel_rfl) (by kernel_rfl) (by kernel_rfl) (fun _ _ _ h => h) (Or.inl ⟨by rfl, ?_⟩) (by assumption) ?_
    rotate_left
    · (intro w hSw; (try dsimp only at hSw); go_simp; try with_reducible rfl)
    try simp only [List.getElem_toArray, List.getElem_cons_succ, List.getElem_cons_zero, Act.put, List.setIfInBounds_toArray, List.set_cons_zero, List.set_cons_succ]
    refine wpAnyH_take (i := 6) (v := ?_) rfl (by kernel_rfl) (by kernel_rfl) (by kernel_rfl) (fun _ _ _ h => h) (Or.inl ⟨by rfl, ?_⟩) (by assumption) ?_
    rotate_left
    · (intro w hSw; (try dsimp only at hSw); go_simp; try with_reducible rfl)
    try simp only [List.getElem_toArray, List.getElem_cons_succ, List.getElem_cons_zero, Act.put, List.setIfInBounds_toArray, List.set_cons_zero, List.set_cons_succ]
    refine wpAnyH_take (i := 7) (v := ?_) rfl (by kernel_rfl) (by kernel_rfl) (by kernel_rfl) (fun _ _ _ h => h) (Or.inl ⟨by rfl, ?_⟩) (by assumption) ?_
    rotate_left
    · (intro w hSw; (try dsimp only at hSw); go_simp; try with_reducible rfl)
    try simp only [List.getElem_toArray, List.getElem_cons_succ, List.getElem_cons_zero, Act.put, List.setIfInBounds_toArray, List.set_cons_zero, List.set_cons_succ]
    refine wpAnyH_take (i := 8) (v := ?_) rfl (by kernel_rfl) (by kernel_rfl) (by kernel_rfl) (fun _ _ _ h => h) (Or.inl ⟨by rfl, ?_⟩) (by assumption) ?_
    rotate_left
    · (intro w hSw; (try dsimp only at hSw); go_simp; try with_reducible rfl)
    try simp only [List.getElem_toArray, List.getElem_cons_succ, List.getElem_cons_zero, Act.put, List.setIfInBounds_toArray, List.set_cons_zero, List.set_cons_succ]
    refine wpAnyH_take (i := 9) (v := ?_) rfl (by kernel_rfl) (by kernel_rfl) (by kernel_rfl) (fun _ _ _ h => h) (Or.inl ⟨by rfl, ?_⟩) (by assumption) ?_
    rotate_left
    · (intro w hSw; (try dsimp only at hSw); go_simp; try with_reducible rfl)
    try simp only [List.getElem_toArray, List.getElem_cons_succ, List.getElem_cons_zero, Act.put, List.setIfInBounds_toArray, List.set_cons_zero, List.set_cons_succ]
    refine wpAnyH_take (i := 10) (v := ?_) rfl (by kernel_rfl) (by kernel_rfl) (by kernel_rfl) (fun _ _ _ h => h) (Or.inl ⟨by rfl, ?_⟩) (by assumption) ?_
    rotate_left
    · (intro w hSw; (try dsimp only at hSw); go_simp; try with_reducible rfl)
    try simp only [List.getElem_toArray, List.getElem_cons_succ, List.getElem_cons_zero, Act.put, List.setIfInBounds_toArray, List.set_cons_zero, List.set_cons_succ]
    refine wpAnyH_ready (rs := [11]) (by kernel_rfl) (by simp) ?_
    refine AllReadyH.cons rfl (fun K hK => ?_) AllReadyH.nil
    rw [if_pos (by rfl)]
    simp only [List.getElem_toArray, List.getElem_cons_succ, List.getElem_cons_zero]
    go_simp
    go_at_call 41
    refine (HMA.out _ HG0.out).mono ?_
    rintro e w9 ⟨rfl, hw⟩
    have HG9 : Hid (Below w3.heap.size w3 w9) := Lib.hid (HG0.out.trans (hw.mono HG0.out.size))
    clear hw
    show K _ w9
    refine hK.out _ _ (KEEP.out _ HG9.out) (fun hHeld => ?_)
    clear hK K
    try simp only [List.getElem_toArray, List.getElem_cons_succ, List.getElem_cons_zero, Act.put, List.setIfInBounds_toArray, List.set_cons_zero, List.set_cons_succ]
    refine wpAnyH_take (i := 12) (v := ?_) rfl (by kernel_rfl) (by kernel_rfl) (by kernel_rfl) (fun _ _ _ h => h) (Or.inl ⟨by rfl, ?_⟩) (by assumption) ?_
    rotate_left
    · (intro w hSw; (try dsimp only at hSw); go_simp; try with_reducible rfl)
    try simp only [List.getElem_toArray, List.getElem_cons_succ, List.getElem_cons_zero, Act.put, List.setIfInBounds_toArray, List.set_cons_zero, List.set_cons_succ]
    refine wpAnyH_done (by kernel_rfl) ?_ _
    clear hHeld KEEP
    have HGR9 : Hid (w.grownBy w9 (some b)) := Lib.hid (HGR3.out.andThen (below_grown HG9.out) (by simp))
    have HM9 := Lib.hid (HM3.out.below HG9.out)
    go_wp2_with fail
    go_ret
    exact ⟨rfl, HGR9.out, n, _, by omega, HM9.out⟩
  | none =>
    have KEEP : Hid (∀ w', Below w2.heap.size w2 w' → (w'.cell? ⟨mb, 2, none⟩ = some (.map (some b)) ∧ w'.cell? ⟨vb, 0, none⟩ = some (.string (bstr x.who)) ∧ w'.cell? ⟨vb, 1, none⟩ = some (.bool x.house) ∧ Sem.run Tryd.prog (Instr.lookup 83 (.map (some b)) (.agg #[.string (bstr x.who), .bool x.house]) true) w' = .ok (.tuple #[.agg #[.bool false, .slice none 0 0], .bool false]) w')) := Lib.hid (fun w' hg => by
      have h1 := HM2.out.below hg
      have h2 := HKVA.out.same (same_below hg) HKVA.out.lt
      have h3 := h1.map.look_ok vwr_law Tryd.underlying83 HZ.out HKL.out HKI.out
      rw [hfk] at h3
      exact ⟨h1.blk.cell 2, h2.cell 0, h2.cell 1, h3⟩)
    refine wp_region_held_drew (S := fun w' => w'.cell? ⟨mb, 2, none⟩ = some (.map (some b)) ∧ w'.cell? ⟨vb, 0, none⟩ = some (.string (bstr x.who)) ∧ w'.cell? ⟨vb, 1, none⟩ = some (.bool x.house) ∧ Sem.run Tryd.prog (Instr.lookup 83 (.map (some b)) (.agg #[.string (bstr x.who), .bool x.house]) true) w' = .ok (.tuple #[.agg #[.bool false, .slice none 0 0], .bool false]) w') (by kernel_rfl) (KEEP.out _ (Below.drew (Below.refl _ _))) (fun hHeld => ?_)
    obtain ⟨wq, hwq⟩ : ∃ wq, wq = World.drew w2 := ⟨_, rfl⟩
    have HG0 : Hid (Below w2.heap.size w2 wq) := Lib.hid (by rw [hwq]; exact Below.drew (Below.refl _ _))
    rw [← hwq] at hHeld ⊢
    clear hwq
    refine wpAnyH_take (i := 0) (v := ?_) rfl (by kernel_rfl) (by kernel_rfl) (by kernel_rfl) (fun _ _ _ h => h) (Or.inl ⟨by rfl, ?_⟩) (by assumption) ?_
    rotate_left
    · (intro w hSw; (try dsimp only at hSw); go_simp; try with_reducible rfl)
    try simp only [List.getElem_toArray, List.getElem_cons_succ, List.getElem_cons_zero, Act.put, List.setIfInBounds_toArray, List.set_cons_zero, List.set_cons_succ]
    refine wpAnyH_take (i := 1) (v := ?_) rfl (by kernel_rfl) (by kernel_rfl) (by kernel_rfl) (fun _ _ _ h => h) (Or.inl ⟨by rfl, ?_⟩) (by assumption) ?_
    rotate_left
    · (intro w hSw; (try dsimp only at hSw); go_simp; try with_reducible rfl)
    try simp only [List.getElem_toArray, List.getElem_cons_succ, List.getElem_cons_zero, Act.put, List.setIfInBounds_toArray, List.set_cons_zero, List.set_cons_succ]
    refine wpAnyH_take (i := 2) (v := ?_) rfl (by kernel_rfl) (by kernel_rfl) (by kernel_rfl) (fun _ _ _ h => h) (Or.inl ⟨by rfl, ?_⟩) (by assumption) ?_
    rotate_left
    · (intro w hSw; (try dsimp only at hSw); go_simp; try with_reducible rfl)
    try simp only [List.getElem_toArray, List.getElem_cons_succ, List.getElem_cons_zero, Act.put, List.setIfInBounds_toArray, List.set_cons_zero, List.set_cons_succ]
    refine wpAnyH_take (i := 3) (v := ?_) rfl (by kernel_rfl) (by kernel_rfl) (by kernel_rfl) (fun _ _ _ h => h) (Or.inl ⟨by rfl, ?_⟩) (by assumption) ?_
    rotate_left
    · (intro w hSw; (try dsimp only at hSw); go_simp; try with_reducible rfl)
    try simp only [List.getElem_toArray, List.getElem_cons_succ, List.getElem_cons_zero, Act.put, List.setIfInBounds_toArray, List.set_cons_zero, List.set_cons_succ]
    refine wpAnyH_take (i := 4) (v := ?_) rfl (by kernel_rfl) (by kernel_rfl) (by kernel_rfl) (fun _ _ _ h => h) (Or.inl ⟨by rfl, ?_⟩) (by assumption) ?_
    rotate_left
    · (intro w hSw; (try dsimp only at hSw); go_simp; try with_reducible rfl)
    try simp only [List.getElem_toArray, List.getElem_cons_succ, List.getElem_cons_zero, Act.put, List.setIfInBounds_toArray, List.set_cons_zero, List.set_cons_succ]
    refine wpAnyH_take (i := 5) (v := ?_) rfl (by kernel_rfl) (by kernel_rfl) (by kernel_rfl) (fun _ _ _ h => h) (Or.inl ⟨by rfl, ?_⟩) (by assumption) ?_
    rotate_left
    · (intro w hSw; (try dsimp only at hSw); go_simp; try with_reducible rfl)
    try simp only [List.getElem_toArray, List.getElem_cons_succ, List.getElem_cons_zero, Act.put, List.setIfInBounds_toArray, List.set_cons_zero, List.set_cons_succ]
    refine wpAnyH_take (i := 6) (v := ?_) rfl (by kernel_rfl) (by kernel_rfl) (by kernel_rfl) (fun _ _ _ h => h) (Or.inl ⟨by rfl, ?_⟩) (by assumption) ?_
    rotate_left
    · (intro w hSw; (try dsimp only at hSw); go_simp; try with_reducible rfl)
    try simp only [List.getElem_toArray, List.getElem_cons_succ, List.getElem_cons_zero, Act.put, List.setIfInBounds_toArray, List.set_cons_zero, List.set_cons_succ]
    refine wpAnyH_take (i := 7) (v := ?_) rfl (by kernel_rfl) (by kernel_rfl) (by kernel_rfl) (fun _ _ _ h => h) (Or.inl ⟨by rfl, ?_⟩) (by assumption) ?_
    rotate_left
    · (intro w hSw; (try dsimp only at hSw); go_simp; try with_reducible rfl)
    try simp only [List.getElem_toArray, List.getElem_cons_succ, List.getElem_cons_zero, Act.put, List.setIfInBounds_toArray, List.set_cons_zero, List.set_cons_succ]
    refine wpAnyH_take (i := 8) (v := ?_) rfl (by kernel_rfl) (by kernel_rfl) (by kernel_rfl) (fun _ _ _ h => h) (Or.inl ⟨by rfl, ?_⟩) (by assumption) ?_
    rotate_left
    · (intro w hSw; (try dsimp only at hSw); go_simp; try with_reducible rfl)
    try simp only [List.getElem_toArray, List.getElem_cons_succ, List.getElem_cons_zero, Act.put, List.setIfInBounds_toArray, List.set_cons_zero, List.set_cons_succ]
    have hal := (Below.refl wq.heap.size wq).alloc (Nat.le_refl _) (.cells #[.bool false, .slice none 0 0] 69)
    have HGA : Hid (Below w2.heap.size w2 (wq.alloc (.cells #[.bool false, .slice none 0 0] 69))) := Lib.hid (HG0.out.trans (hal.mono HG0.out.size))
    have hkn := Blk.new wq 69 [.bool false, .slice none 0 0]
    have HKN := Lib.hid hkn
    clear hal
    refine wpAnyH_ready (rs := [9]) (by kernel_rfl) (by simp) ?_
    refine AllReadyH.cons rfl (fun K hK => ?_) AllReadyH.nil
    rw [if_pos (by rfl)]
    simp only [List.getElem_toArray, List.getElem_cons_succ, List.getElem_cons_zero]
    go_simp
    refine hK.out _ _ (KEEP.out _ HGA.out) (fun hHeld => ?_)
    clear hK K
    try simp only [List.getElem_toArray, List.getElem_cons_succ, List.getElem_cons_zero, Act.put, List.setIfInBounds_toArray, List.set_cons_zero, List.set_cons_succ]
    have n0 := hkn.cell 0
    have n1 := hkn.cell 1
    have z0 := hkn.frozen 0
    have z1 := hkn.frozen 1
    clear hkn
    have HKE3 := Lib.hid (Blk.new wq 69 [.bool false, .slice none 0 0])
    have HG3 : Hid (Below w2.heap.size w2 (wq.alloc (.cells #[.bool false, .slice none 0 0] 69))) := Lib.hid (HG0.out.trans (((Below.refl wq.heap.size wq).alloc (Nat.le_refl _) _).mono HG0.out.size))
    refine wpAnyH_ready (rs := [10]) (by kernel_rfl) (by simp) ?_
    refine AllReadyH.cons rfl (fun K hK => ?_) AllReadyH.nil
    rw [if_pos (by rfl)]
    simp only [List.getElem_toArray, List.getElem_cons_succ, List.getElem_cons_zero]
    go_simp
    refine hK.out _ _ (KEEP.out _ HG3.out) (fun hHeld => ?_)
    clear hK K
    try simp only [List.getElem_toArray, List.getElem_cons_succ, List.getElem_cons_zero, Act.put, List.setIfInBounds_toArray, List.set_cons_zero, List.set_cons_succ]
    refine wpAnyH_take (i := 11) (v := ?_) rfl (by kernel_rfl) (by kernel_rfl) (by kernel_rfl) (fun _ _ _ h => h) (Or.inl ⟨by rfl, ?_⟩) (by assumption) ?_
    rotate_left
    · (intro w hSw; (try dsimp only at hSw); go_simp; try with_reducible rfl)
    try simp only [List.getElem_toArray, List.getElem_cons_succ, List.getElem_cons_zero, Act.put, List.setIfInBounds_toArray, List.set_cons_zero, List.set_cons_succ]
    refine wpAnyH_done (by kernel_rfl) ?_ _
    clear hHeld KEEP n0 n1 z0 z1
    have hG3 := HG3.out.size
    have hQ := HG0.out.size
    obtain ⟨eb, heb⟩ : ∃ eb, eb = wq.heap.size := ⟨_, rfl⟩
    rw [← heb] at HKE3 ⊢
    have heb2 : w2.heap.size ≤ eb := by rw [heb]; exact hQ
    generalize wq.alloc (.cells #[.bool false, .slice none 0 0] 69) = w3 at *
    clear HKN HGA HG0 heb hQ
    have HGR3 : Hid (w.grownBy w3 (some b)) := Lib.hid (HGR2.out.andThen (below_grown HG3.out) (by simp))
    have HBB3 : Hid (Below B w w3) := Lib.hid (HBB2.out.trans (HG3.out.mono (by omega)))
    have HM3 := Lib.hid (HM2.out.below HG3.out)
    have HKX3 := Lib.hid (HKXA.out.same (same_below HG3.out) HKXA.out.lt)
    have HKV3 := Lib.hid (HKVA.out.same (same_below HG3.out) HKVA.out.lt)
    clear HGR2 HBB2 HM2 HKXA HKVA
    clear hfk
    go_wp2_with fail
    have KEEP : Hid (∀ w', Below w3.heap.size w3 w' → (w'.cell? ⟨mb, 0, none⟩ = some vt ∧ w'.cell? ⟨vb, 0, none⟩ = some (.string (bstr x.who)) ∧ w'.cell? ⟨vb, 1, none⟩ = some (.bool x.house))) := Lib.hid (fun w' hg => by
      have h1 := HM3.out.below hg
      have h2 := HKV3.out.same (same_below hg) HKV3.out.lt
      exact ⟨h1.blk.cell 0, h2.cell 0, h2.cell 1⟩)
    have HEY : Hid (∀ W, Below w3.heap.size w3 W → Calls Tryd.prog 40 #[vt, .agg #[.string (bstr x.who), .bool x.house]] W (EyePost2 t x.who x.house W)) := Lib.hid (fun W hW => eyeOf2_any vt t x.who x.house W (Rp.sub _ (Rp.below _ HT.out (HBB3.out.trans (hW.mono (Nat.le_trans hBw HGR3.out.size)))) (fun k hk => Nat.lt_of_lt_of_le hk (Nat.le_trans hBw (Nat.le_trans HGR3.out.size hW.size)))) HTG.out)
    refine wp_region_held_drew (S := fun w' => w'.cell? ⟨mb, 0, none⟩ = some vt ∧ w'.cell? ⟨vb, 0, none⟩ = some (.string (bstr x.who)) ∧ w'.cell? ⟨vb, 1, none⟩ = some (.bool x.house)) (by kernel_rfl) (KEEP.out _ (Below.drew (Below.refl _ _))) (fun hHeld => ?_)
    obtain ⟨wq, hwq⟩ : ∃ wq, wq = World.drew w3 := ⟨_, rfl⟩
    have HG0 : Hid (Below w3.heap.size w3 wq) := Lib.hid (by rw [hwq]; exact Below.drew (Below.refl _ _))
    rw [← hwq] at hHeld ⊢
    clear hwq
    refine wpAnyH_take (i := 0) (v := ?_) rfl (by kernel_rfl) (by kernel_rfl) (by kernel_rfl) (fun _ _ _ h => h) (Or.inl ⟨by rfl, ?_⟩) (by assumption) ?_
    rotate_left
    · (intro w hSw; (try dsimp only at hSw); go_simp; try with_reducible rfl)
    try simp only [List.getElem_toArray, List.getElem_cons_succ, List.getElem_cons_zero, Act.put, List.setIfInBounds_toArray, List.set_cons_zero, List.set_cons_succ]
    refine wpAnyH_take (i := 1) (v := ?_) rfl (by kernel_rfl) (by kernel_rfl) (by kernel_rfl) (fun _ _ _ h => h) (Or.inl ⟨by rfl, ?_⟩) (by assumption) ?_
    rotate_left
    · (intro w hSw; (try dsimp only at hSw); go_simp; try with_reducible rfl)
    try simp only [List.getElem_toArray, List.getElem_cons_succ, List.getElem_cons_zero, Act.put, List.setIfInBounds_toArray, List.set_cons_zero, List.set_cons_succ]
    refine wpAnyH_take (i := 2) (v := ?_) rfl (by kernel_rfl) (by kernel_rfl) (by kernel_rfl) (fun _ _ _ h => h) (Or.inl ⟨by rfl, ?_⟩) (by assumption) ?_
    rotate_left
    · (intro w hSw; (try dsimp only at hSw); go_simp; try with_reducible rfl)
    try simp only [List.getElem_toArray, List.getElem_cons_succ, List.getElem_cons_zero, Act.put, List.setIfInBounds_toArray, List.set_cons_zero, List.set_cons_succ]
    refine wpAnyH_take (i := 3) (v := ?_) rfl (by kernel_rfl) (by kernel_rfl) (by kernel_rfl) (fun _ _ _ h => h) (Or.inl ⟨by rfl, ?_⟩) (by assumption) ?_
    rotate_left
    · (intro w hSw; (try dsimp only at hSw); go_simp; try with_reducible rfl)
    try simp only [List.getElem_toArray, List.getElem_cons_succ, List.getElem_cons_zero, Act.put, List.setIfInBounds_toArray, List.set_cons_zero, List.set_cons_succ]
    refine wpAnyH_take (i := 4) (v := ?_) rfl (by kernel_rfl) (by kernel_rfl) (by kernel_rfl) (fun _ _ _ h => h) (Or.inl ⟨by rfl, ?_⟩) (by assumption) ?_
    rotate_left
    · (intro w hSw; (try dsimp only at hSw); go_simp; try with_reducible rfl)
    try simp only [List.getElem_toArray, List.getElem_cons_succ, List.getElem_cons_zero, Act.put, List.setIfInBounds_toArray, List.set_cons_zero, List.set_cons_succ]
    refine wpAnyH_ready (rs := [5]) (by kernel_rfl) (by simp) ?_
    refine AllReadyH.cons rfl (fun K hK => ?_) AllReadyH.nil
    rw [if_pos (by rfl)]
    simp only [List.getElem_toArray, List.getElem_cons_succ, List.getElem_cons_zero]
    go_simp
    go_at_call 40
    refine (HEY.out _ HG0.out).mono ?_
    rintro e w5 ⟨Ae, ce, rfl, hnn, hw, Be, hBe, hoe⟩
    have HG5 : Hid (Below w3.heap.size w3 w5) := Lib.hid (HG0.out.trans (hw.mono HG0.out.size))
    have HOE := Lib.hid hoe
    clear hw hnn hoe
    show K _ w5
    refine hK.out _ _ (KEEP.out _ HG5.out) (fun hHeld => ?_)
    clear hK K
    try simp only [List.getElem_toArray, List.getElem_cons_succ, List.getElem_cons_zero, Act.put, List.setIfInBounds_toArray, List.set_cons_zero, List.set_cons_succ]
    have hq5 := HG0.out.size
    have HKE5 := HKE3.out.same (same_below HG5.out) HKE3.out.lt
    have n0 := HKE5.cell 0
    have n1 := HKE5.cell 1
    have z0 := HKE5.frozen 0
    have z1 := HKE5.frozen 1
    have HKE6 := Lib.hid ((HKE5.set_ 0 (.bool x.house)).set_ 1 (.slice Ae (eyeT t x.who t.length).length ce))
    have HGS : Hid (w5.grownBy ((w5.setCell ⟨eb, 0, none⟩ (.bool x.house)).setCell ⟨eb, 1, none⟩ (.slice Ae (eyeT t x.who t.length).length ce)) (some eb)) := Lib.hid ((set_grownT _ _ _ _).trans (set_grownT _ _ _ _))
    have hebl : eb < w3.heap.size := HKE3.out.lt
    have HOE6 := Lib.hid (HOE.out.kept HGS.out (.inr (fun e => by have := (HOE.out.lt _ e).1; omega)))
    clear HKE5 HOE
    have HM6 : Hid (MSt t vt vl mb b n f ((w5.setCell ⟨eb, 0, none⟩ (.bool x.house)).setCell ⟨eb, 1, none⟩ (.slice Ae (eyeT t x.who t.length).length ce))) := Lib.hid (by
      have h1 := (HM3.out.below HG5.out).grown HGS.out (fun e => by have := HM3.out.blk.lt; have := Option.some.inj e; omega) (fun e => by have := Option.some.inj e; omega) (fun v B k xs h => by
        rcases h.2 with ⟨rfl, _⟩ | ⟨g, cap, cur, rfl, _, hg, _⟩
        · exact .inl rfl
        · right; intro e; simp only [Value.ownBlock, Option.some.injEq] at e; subst e; have hk := HKE3.out.same (same_below HG5.out) HKE3.out.lt; unfold Blk at hk; rw [hk] at hg; simp only [Option.some.injEq, Obj.cells.injEq] at hg; exact absurd hg.2.1 (by decide))
      exact h1)
    have HKV6 := Lib.hid ((HKV3.out.same (same_below HG5.out) HKV3.out.lt).same (grown_same HGS.out) ⟨Nat.lt_of_lt_of_le HKV3.out.lt HG5.out.size, fun e => by have := Option.some.inj e; have := HVB.out; omega⟩)
    have HKX6 := Lib.hid ((HKX3.out.same (same_below HG5.out) HKX3.out.lt).same (grown_same HGS.out) ⟨Nat.lt_of_lt_of_le HKX3.out.lt HG5.out.size, fun e => by have := Option.some.inj e; omega⟩)
    have HGR6 : Hid (w.grownBy ((w5.setCell ⟨eb, 0, none⟩ (.bool x.house)).setCell ⟨eb, 1, none⟩ (.slice Ae (eyeT t x.who t.length).length ce)) (some b)) := Lib.hid ((HGR3.out.andThen (below_grown HG5.out) (by simp)).andThen HGS.out (fun j e => by have := Option.some.inj e; left; omega))
    refine wpAnyH_ready (rs := [6]) (by kernel_rfl) (by simp) ?_
    refine AllReadyH.cons rfl (fun K hK => ?_) AllReadyH.nil
    rw [if_pos (by rfl)]
    simp only [List.getElem_toArray, List.getElem_cons_succ, List.getElem_cons_zero]
    go_simp
    refine hK.out _ _ ⟨HM6.out.blk.cell 0, HKV6.out.cell 0, HKV6.out.cell 1⟩ (fun hHeld => ?_)
    clear hK K
    try simp only [List.getElem_toArray, List.getElem_cons_succ, List.getElem_cons_zero, Act.put, List.setIfInBounds_toArray, List.set_cons_zero, List.set_cons_succ]
    refine wpAnyH_done (by kernel_rfl) ?_ _
    clear hHeld KEEP n0 n1 z0 z1 HGS HG5 HG0 HKE3 HM3 HKV3 HKX3 HBB3
    generalize (w5.setCell ⟨eb, 0, none⟩ (.bool x.house)).setCell ⟨eb, 1, none⟩ (.slice Ae (eyeT t x.who t.length).length ce) = w6 at *
    have HEO6 : Hid (EyeOk t w6 x.who x.house (.agg #[.bool x.house, .slice Ae (eyeT t x.who t.length).length ce])) := Lib.hid ⟨Ae, ce, Be, rfl, HOE6.out⟩
    go_wp2_with fail
    have KEEP : Hid (∀ w', Below w6.heap.size w6 w' → (w'.cell? ⟨mb, 2, none⟩ = some (.map (some b)) ∧ w'.cell? ⟨vb, 0, none⟩ = some (.string (bstr x.who)) ∧ w'.cell? ⟨vb, 1, none⟩ = some (.bool x.house) ∧ w'.cell? ⟨eb, 0, none⟩ = some (.bool x.house) ∧ w'.cell? ⟨eb, 1, none⟩ = some (.slice Ae (eyeT t x.who t.length).length ce))) := Lib.hid (fun w' hg => by
      have h1 := HM6.out.below hg
      have h2 := HKV6.out.same (same_below hg) HKV6.out.lt
      have h3 := HKE6.out.same (same_below hg) HKE6.out.lt
      exact ⟨h1.blk.cell 2, h2.cell 0, h2.cell 1, h3.cell 0, h3.cell 1⟩)
    refine wp_region_held_drew (S := fun w' => w'.cell? ⟨mb, 2, none⟩ = some (.map (some b)) ∧ w'.cell? ⟨vb, 0, none⟩ = some (.string (bstr x.who)) ∧ w'.cell? ⟨vb, 1, none⟩ = some (.bool x.house) ∧ w'.cell? ⟨eb, 0, none⟩ = some (.bool x.house) ∧ w'.cell? ⟨eb, 1, none⟩ = some (.slice Ae (eyeT t x.who t.length).length ce)) (by kernel_rfl) (KEEP.out _ (Below.drew (Below.refl _ _))) (fun hHeld => ?_)
    obtain ⟨wq, hwq⟩ : ∃ wq, wq = World.drew w6 := ⟨_, rfl⟩
    have HG0 : Hid (Below w6.heap.size w6 wq) := Lib.hid (by rw [hwq]; exact Below.drew (Below.refl _ _))
    rw [← hwq] at hHeld ⊢
    clear hwq
    refine wpAnyH_take (i := 0) (v := ?_) rfl (by kernel_rfl) (by kernel_rfl) (by kernel_rfl) (fun _ _ _ h => h) (Or.inl ⟨by rfl, ?_⟩) (by assumption) ?_
    rotate_left
    · (intro w hSw; (try dsimp only at hSw); go_simp; try with_reducible rfl)
    try simp only [List.getElem_toArray, List.getElem_cons_succ, List.getElem_cons_zero, Act.put, List.setIfInBounds_toArray, List.set_cons_zero, List.set_cons_succ]
    refine wpAnyH_take (i := 1) (v := ?_) rfl (by kernel_rfl) (by kernel_rfl) (by kernel_rfl) (fun _ _ _ h => h) (Or.inl ⟨by rfl, ?_⟩) (by assumption) ?_
    rotate_left
    · (intro w hSw; (try dsimp only at hSw); go_simp; try with_reducible rfl)
    try simp only [List.getElem_toArray, List.getElem_cons_succ, List.getElem_cons_zero, Act.put, List.setIfInBounds_toArray, List.set_cons_zero, List.set_cons_succ]
    refine wpAnyH_take (i := 2) (v := ?_) rfl (by kernel_rfl) (by kernel_rfl) (by kernel_rfl) (fun _ _ _ h => h) (Or.inl ⟨by rfl, ?_⟩) (by assumption) ?_
    rotate_left
    · (intro w hSw; (try dsimp only at hSw); go_simp; try with_reducible rfl)
    try simp only [List.getElem_toArray, List.getElem_cons_succ, List.getElem_cons_zero, Act.put, List.setIfInBounds_toArray, List.set_cons_zero, List.set_cons_succ]
    refine wpAnyH_take (i := 3) (v := ?_) rfl (by kernel_rfl) (by kernel_rfl) (by kernel_rfl) (fun _ _ _ h => h) (Or.inl ⟨by rfl, ?_⟩) (by assumption) ?_
    rotate_left
    · (intro w hSw; (try dsimp only at hSw); go_simp; try with_reducible rfl)
    try simp only [List.getElem_toArray, List.getElem_cons_succ, List.getElem_cons_zero, Act.put, List.setIfInBounds_toArray, List.set_cons_zero, List.set_cons_succ]
    refine wpAnyH_take (i := 4) (v := ?_) rfl (by kernel_rfl) (by kernel_rfl) (by kernel_rfl) (fun _ _ _ h => h) (Or.inl ⟨by rfl, ?_⟩) (by assumption) ?_
    rotate_left
    · (intro w hSw; (try dsimp only at hSw); go_simp; try with_reducible rfl)
    try simp only [List.getElem_toArray, List.getElem_cons_succ, List.getElem_cons_zero, Act.put, List.setIfInBounds_toArray, List.set_cons_zero, List.set_cons_succ]
    refine wpAnyH_take (i := 5) (v := ?_) rfl (by kernel_rfl) (by kernel_rfl) (by kernel_rfl) (fun _ _ _ h => h) (Or.inl ⟨by rfl, ?_⟩) (by assumption) ?_
    rotate_left
    · (intro w hSw; (try dsimp only at hSw); go_simp; try with_reducible rfl)
    try simp only [List.getElem_toArray, List.getElem_cons_succ, List.getElem_cons_zero, Act.put, List.setIfInBounds_toArray, List.set_cons_zero, List.set_cons_succ]
    have HGQ := Lib.hid (below_grown HG0.out)
    have HMq := Lib.hid (HM6.out.below HG0.out)
    have HEOq : Hid (EyeOk t wq x.who x.house (.agg #[.bool x.house, .slice Ae (eyeT t x.who t.length).length ce])) := Lib.hid ⟨Ae, ce, Be, rfl, HOE6.out.kept HGQ.out (by cases hv : (Value.slice Ae (eyeT t x.who t.length).length ce).ownBlock <;> simp)⟩
    refine wpAnyH_ready (rs := [6]) (by kernel_rfl) (by simp) ?_
    refine AllReadyH.cons rfl (fun K hK => ?_) AllReadyH.nil
    refine step_vmap_update (by rfl) _ _ _ 83 rfl HMq.out.map vwr_law Tryd.underlying83 (by unfold maxLen; omega) kl (.agg #[.bool x.house, .slice Ae (eyeT t x.who t.length).length ce]) rfl rfl rfl HKL.out HKI.out ?_
    intro w7 HV7 HG7
    have HM7 := Lib.hid (HMq.out.put HKL.out HEOq.out HV7.out HG7.out hmb)
    have HKE7 := Lib.hid ((HKE6.out.same (same_below HG0.out) HKE6.out.lt).same (grown_same HG7.out) ⟨Nat.lt_of_lt_of_le HKE6.out.lt HG0.out.size, fun e => by have := Option.some.inj e; omega⟩)
    have HKV7 := Lib.hid ((HKV6.out.same (same_below HG0.out) HKV6.out.lt).same (grown_same HG7.out) ⟨Nat.lt_of_lt_of_le HKV6.out.lt HG0.out.size, fun e => by have := Option.some.inj e; have := HVB.out; omega⟩)
    have HKX7 := Lib.hid ((HKX6.out.same (same_below HG0.out) HKX6.out.lt).same (grown_same HG7.out) ⟨Nat.lt_of_lt_of_le HKX6.out.lt HG0.out.size, fun e => by have := Option.some.inj e; omega⟩)
    have HGR7 : Hid (w.grownBy w7 (some b)) := Lib.hid ((HGR6.out.andThen HGQ.out (by simp)).andThen HG7.out (fun j e => .inr e))
    have HBB7 : Hid (Below B w w7) := Lib.hid ((Below.refl B w).grown HGR7.out hBw (fun j e => by have := Option.some.inj e; omega))
    have HEO : Hid (EyeOk t w7 x.who x.house (.agg #[.bool x.house, .slice Ae (eyeT t x.who t.length).length ce])) := Lib.hid (HM7.out.eye _ _ _ _ HKL.out (if_pos (WideAt.sameKey_self HKI.out)))
    refine hK.out _ _ ⟨HM7.out.blk.cell 2, HKV7.out.cell 0, HKV7.out.cell 1, HKE7.out.cell 0, HKE7.out.cell 1⟩ (fun hHeld => ?_)
    clear hK K
    try simp only [List.getElem_toArray, List.getElem_cons_succ, List.getElem_cons_zero, Act.put, List.setIfInBounds_toArray, List.set_cons_zero, List.set_cons_succ]
    refine wpAnyH_done (by kernel_rfl) ?_ _
    clear hHeld KEEP HGQ HMq HEOq HV7 HG7 HG0 HKE6 HM6 HKV6 HKX6 HGR6 HOE6 HEO6
    have KEEP : Hid (∀ w', Below w7.heap.size w7 w' → (w'.cell? ⟨mb, 1, none⟩ = some vl ∧ w'.cell? ⟨eb, 0, none⟩ = some (.bool x.house) ∧ w'.cell? ⟨eb, 1, none⟩ = some (.slice Ae (eyeT t x.who t.length).length ce) ∧ w'.cell? ⟨w.heap.size, 3, none⟩ = some (.string (bstr x.key)) ∧ w'.cell? ⟨w.heap.size, 4, none⟩ = some (.int .i64 x.time))) := Lib.hid (fun w' hg => by
      have h1 := HM7.out.below hg
      have h2 := HKE7.out.same (same_below hg) HKE7.out.lt
      have h3 := HKX7.out.same (same_below hg) HKX7.out.lt
      exact ⟨h1.blk.cell 1, h2.cell 0, h2.cell 1, h3.cell 3, h3.cell 4⟩)
    have HMA : Hid (∀ W, Below w7.heap.size w7 W → Calls Tryd.prog 41 #[.agg #[.bool x.house, .slice Ae (eyeT t x.who t.length).length ce], vl, .agg #[.string (bstr x.key), .int .i64 x.time], .int .i64 at_] W fun e w' => e = .returned (.bool (mayS t l x at_)) ∧ Below W.heap.size W w') := Lib.hid (fun W hW => by
      obtain ⟨A', c', e', hn'⟩ := eye_names HNM.out (HEO.out : EyeOk t w7 x.who x.house (.agg #[.bool x.house, .slice Ae (eyeT t x.who t.length).length ce]))
      have e2 := e'
      injection e2 with e2
      have e3 := Array.toList_inj.2 e2
      injection e3 with _ e3
      injection e3 with e3
      rw [← e3] at hn'
      exact may_any _ _ x.house vl l ⟨x.key, x.time⟩ at_ W (Rp.ext _ hn' hW) (Rp.sub _ (Rp.below _ H0.out (HBB7.out.trans (hW.mono (Nat.le_trans hBw HGR7.out.size)))) (fun k hk => Nat.lt_of_lt_of_le hk (Nat.le_trans hBw (Nat.le_trans HGR7.out.size hW.size)))) hm hxk2)
    go_wp2_with fail
    refine wp_region_held_drew (S := fun w' => w'.cell? ⟨mb, 1, none⟩ = some vl ∧ w'.cell? ⟨eb, 0, none⟩ = some (.bool x.house) ∧ w'.cell? ⟨eb, 1, none⟩ = some (.slice Ae (eyeT t x.who t.length).length ce) ∧ w'.cell? ⟨w.heap.size, 3, none⟩ = some (.string (bstr x.key)) ∧ w'.cell? ⟨w.heap.size, 4, none⟩ = some (.int .i64 x.time)) (by kernel_rfl) (KEEP.out _ (Below.drew (Below.refl _ _))) (fun hHeld => ?_)
    obtain ⟨wq, hwq⟩ : ∃ wq, wq = World.drew w7 := ⟨_, rfl⟩
    have HG0 : Hid (Below w7.heap.size w7 wq) := Lib.hid (by rw [hwq]; exact Below.drew (Below.refl _ _))
    rw [← hwq] at hHeld ⊢
    clear hwq
    refine wpAnyH_take (i := 0) (v := ?_) rfl (by kernel_rfl) (by kernel_rfl) (by kernel_rfl) (fun _ _ _ h => h) (Or.inl ⟨by rfl, ?_⟩) (by assumption) ?_
    rotate_left
    · (intro w hSw; (try dsimp only at hSw); go_simp; try with_reducible rfl)
    try simp only [List.getElem_toArray, List.getElem_cons_succ, List.getElem_cons_zero, Act.put, List.setIfInBounds_toArray, List.set_cons_zero, List.set_cons_succ]
    refine wpAnyH_take (i := 1) (v := ?_) rfl (by kernel_rfl) (by kernel_rfl) (by kernel_rfl) (fun _ _ _ h => h) (Or.inl ⟨by rfl, ?_⟩) (by assumption) ?_
    rotate_left
    · (intro w hSw; (try dsimp only at hSw); go_simp; try with_reducible rfl)
    try simp only [List.getElem_toArray, List.getElem_cons_succ, List.getElem_cons_zero, Act.put, List.setIfInBounds_toArray, List.set_cons_zero, List.set_cons_succ]
    refine wpAnyH_take (i := 2) (v := ?_) rfl (by kernel_rfl) (by kernel_rfl) (by kernel_rfl) (fun _ _ _ h => h) (Or.inl ⟨by rfl, ?_⟩) (by assumption) ?_
    rotate_left
    · (intro w hSw; (try dsimp only at hSw); go_simp; try with_reducible rfl)
    try simp only [List.getElem_toArray, List.getElem_cons_succ, List.getElem_cons_zero, Act.put, List.setIfInBounds_toArray, List.set_cons_zero, List.set_cons_succ]
    refine wpAnyH_take (i := 3) (v := ?_) rfl (by kernel_rfl) (by kernel_rfl) (by kernel_rfl) (fun _ _ _ h => h) (Or.inl ⟨by rfl, ?_⟩) (by assumption) ?_
    rotate_left
    · (intro w hSw; (try dsimp only at hSw); go_simp; try with_reducible rfl)
    try simp only [List.getElem_toArray, List.getElem_cons_succ, List.getElem_cons_zero, Act.put, List.setIfInBounds_toArray, List.set_cons_zero, List.set_cons_succ]
    refine wpAnyH_take (i := 4) (v := ?_) rfl (by kernel_rfl) (by kernel_rfl) (by kernel_rfl) (fun _ _ _ h => h) (Or.inl ⟨by rfl, ?_⟩) (by assumption) ?_
    rotate_left
    · (intro w hSw; (try dsimp only at hSw); go_simp; try with_reducible rfl)
    try simp only [List.getElem_toArray, List.getElem_cons_succ, List.getElem_cons_zero, Act.put, List.setIfInBounds_toArray, List.set_cons_zero, List.set_cons_succ]
    refine wpAnyH_take (i := 5) (v := ?_) rfl (by kernel_rfl) (by kernel_rfl) (by kernel_rfl) (fun _ _ _ h => h) (Or.inl ⟨by rfl, ?_⟩) (by assumption) ?_
    rotate_left
    · (intro w hSw; (try dsimp only at hSw); go_simp; try with_reducible rfl)
    try simp only [List.getElem_toArray, List.getElem_cons_succ, List.getElem_cons_zero, Act.put, List.setIfInBounds_toArray, List.set_cons_zero, List.set_cons_succ]
    refine wpAnyH_take (i := 6) (v := ?_) rfl (by kernel_rfl) (by kernel_rfl) (by kernel_rfl) (fun _ _ _ h => h) (Or.inl ⟨by rfl, ?_⟩) (by assumption) ?_
    rotate_left
    · (intro w hSw; (try dsimp only at hSw); go_simp; try with_reducible rfl)
    try simp only [List.getElem_toArray, List.getElem_cons_succ, List.getElem_cons_zero, Act.put, List.setIfInBounds_toArray, List.set_cons_zero, List.set_cons_succ]
    refine wpAnyH_take (i := 7) (v := ?_) rfl (by kernel_rfl) (by kernel_rfl) (by kernel_rfl) (fun _ _ _ h => h) (Or.inl ⟨by rfl, ?_⟩) (by assumption) ?_
    rotate_left
    · (intro w hSw; (try dsimp only at hSw); go_simp; try with_reducible rfl)
    try simp only [List.getElem_toArray, List.getElem_cons_succ, List.getElem_cons_zero, Act.put, List.setIfInBounds_toArray, List.set_cons_zero, List.set_cons_succ]
    refine wpAnyH_take (i := 8) (v := ?_) rfl (by kernel_rfl) (by kernel_rfl) (by kernel_rfl) (fun _ _ _ h => h) (Or.inl ⟨by rfl, ?_⟩) (by assumption) ?_
    rotate_left
    · (intro w hSw; (try dsimp only at hSw); go_simp; try with_reducible rfl)
    try simp only [List.getElem_toArray, List.getElem_cons_succ, List.getElem_cons_zero, Act.put, List.setIfInBounds_toArray, List.set_cons_zero, List.set_cons_succ]
    refine wpAnyH_take (i := 9) (v := ?_) rfl (by kernel_rfl) (by kernel_rfl) (by kernel_rfl) (fun _ _ _ h => h) (Or.inl ⟨by rfl, ?_⟩) (by assumption) ?_
    rotate_left
    · (intro w hSw; (try dsimp only at hSw); go_simp; try with_reducible rfl)
    try simp only [List.getElem_toArray, List.getElem_cons_succ, List.getElem_cons_zero, Act.put, List.setIfInBounds_toArray, List.set_cons_zero, List.set_cons_succ]
    refine wpAnyH_take (i := 10) (v := ?_) rfl (by kernel_rfl) (by kernel_rfl) (by kernel_rfl) (fun _ _ _ h => h) (Or.inl ⟨by rfl, ?_⟩) (by assumption) ?_
    rotate_left
    · (intro w hSw; (try dsimp only at hSw); go_simp; try with_reducible rfl)
    try simp only [List.getElem_toArray, List.getElem_cons_succ, List.getElem_cons_zero, Act.put, List.setIfInBounds_toArray, List.set_cons_zero, List.set_cons_succ]
    refine wpAnyH_ready (rs := [11]) (by kernel_rfl) (by simp) ?_
    refine AllReadyH.cons rfl (fun K hK => ?_) AllReadyH.nil
    rw [if_pos (by rfl)]
    simp only [List.getElem_toArray, List.getElem_cons_succ, List.getElem_cons_zero]
    go_simp
    go_at_call 41
    refine (HMA.out _ HG0.out).mono ?_
    rintro e w9 ⟨rfl, hw⟩
    have HG9 : Hid (Below w7.heap.size w7 w9) := Lib.hid (HG0.out.trans (hw.mono HG0.out.size))
    clear hw
    show K _ w9
    refine hK.out _ _ (KEEP.out _ HG9.out) (fun hHeld => ?_)
    clear hK K
    try simp only [List.getElem_toArray, List.getElem_cons_succ, List.getElem_cons_zero, Act.put, List.setIfInBounds_toArray, List.set_cons_zero, List.set_cons_succ]
    refine wpAnyH_take (i := 12) (v := ?_) rfl (by kernel_rfl) (by kernel_rfl) (by kernel_rfl) (fun _ _ _ h => h) (Or.inl ⟨by rfl, ?_⟩) (by assumption) ?_
    rotate_left
    · (intro w hSw; (try dsimp only at hSw); go_simp; try with_reducible rfl)
    try simp only [List.getElem_toArray, List.getElem_cons_succ, List.getElem_cons_zero, Act.put, List.setIfInBounds_toArray, List.set_cons_zero, List.set_cons_succ]
    refine wpAnyH_done (by kernel_rfl) ?_ _
    clear hHeld KEEP
    have HGR9 : Hid (w.grownBy w9 (some b)) := Lib.hid (HGR7.out.andThen (below_grown HG9.out) (by simp))
    have HM9 := Lib.hid (HM7.out.below HG9.out)
    go_wp2_with fail
    go_ret
    exact ⟨rfl, HGR9.out, n + 1, _, by omega, HM9.out⟩
end Go.Proofs.YtmlhpemgpndppaaDoor
