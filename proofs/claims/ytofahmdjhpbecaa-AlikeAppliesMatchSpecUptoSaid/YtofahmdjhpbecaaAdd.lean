/-
  'add', 'put': one more line to changes.
-/
import Derived.Test.YtofahmdjhpbecaaProg
import Derived.Test.YtofahmdjhpbecaaNest
import Derived.Test.YtofahmdjhpbecaaWords
import Derived.Test.YtofahmdjhpbecaaStr
namespace Go.Proofs.Ytofahmdjhpbecaa
open Go.RowKit
set_option linter.unusedVariables false
set_option linter.unusedSimpArgs false

/-- A change: its kind and its lines. -/
structure Ch where
  kind : Int
  ls : List (List UInt8)
  deriving DecidableEq
def chHd (c : Ch) : List Value := [.int .i64 c.kind]
def chIn (c : Ch) : List Value := strs c.ls
theorem chIn_len (c : Ch) : (chIn c).length = c.ls.length := by simp [chIn, strs]
/-- One more line. -/
def addL : List Ch → Int → List UInt8 → List Ch
  | [], k, s => [⟨k, [s]⟩]
  | [c], k, s => if c.kind = k then [⟨c.kind, c.ls ++ [s]⟩] else [c, ⟨k, [s]⟩]
  | c :: d :: l, k, s => c :: addL (d :: l) k s
theorem addL_same (l : List Ch) (c : Ch) (k : Int) (s : List UInt8) (h : c.kind = k) : addL (l ++ [c]) k s = l ++ [⟨c.kind, c.ls ++ [s]⟩] := by
  induction l with
  | nil => rw [List.nil_append, addL, if_pos h]; rfl
  | cons d l ih =>
    obtain ⟨x, m, e⟩ : ∃ x m, l ++ [c] = x :: m := List.exists_cons_of_ne_nil (by simp)
    rw [List.cons_append, e, addL, ← e, ih]; rfl
theorem addL_new (l : List Ch) (c : Ch) (k : Int) (s : List UInt8) (h : c.kind ≠ k) : addL (l ++ [c]) k s = l ++ [c] ++ [⟨k, [s]⟩] := by
  induction l with
  | nil => rw [List.nil_append, addL, if_neg h]; rfl
  | cons d l ih =>
    obtain ⟨x, m, e⟩ : ∃ x m, l ++ [c] = x :: m := List.exists_cons_of_ne_nil (by simp)
    rw [List.cons_append, e, addL, ← e, ih]; simp

theorem change_info : (Try.prog.info? 109).map (fun i => (i.zero, i.size, i.bytes)) = some (some (.agg #[.int .i64 0, .slice none 0 0]), 2, 32) := by kernel_rfl
def AddPost (B : Nat) (out : List Ch) (kind : Int) (line : List UInt8) (w : World) (e : Ending) (w' : World) : Prop :=
  ∃ v', e = .returned v' ∧ Nest chHd chIn 2 109 9 B w' v' (addL out kind line) ∧ (∀ w0, Below B w0 w → Below B w0 w')

set_option maxRecDepth 100000 in
set_option maxHeartbeats 2000000 in
theorem add_any (B : Nat) (v : Value) (out : List Ch) (kind : Int) (line : List UInt8) (w : World) (hN : Nest chHd chIn 2 109 9 B w v out) (hB : B ≤ w.heap.size) (hol : out.length ≤ 2000) (hcl : ∀ c ∈ out, c.ls.length ≤ 2000) :
    Calls Try.prog 92 #[v, .int .i64 kind, .string (bstr line)] w (AddPost B out kind line w) := by
  by_cases hfresh : out = [] ∨ ∃ init c, out = init ++ [c] ∧ c.kind ≠ kind
  · have HCB : Hid (addL out kind line = out ++ [⟨kind, [line]⟩]) := by
      rcases hfresh with rfl | ⟨init, cp, rfl, hn0⟩
      · rfl
      · exact addL_new init cp kind line hn0
    obtain ⟨xs, hown, hpush⟩ := Nest.open_ (by decide) hN
    have HO := Lib.hid hown
    have HPU := Lib.hid hpush
    obtain ⟨A5, c5, rfl, hn5, hc5, _⟩ := own_form hown
    have hguard : out.length = 0 ∨ (0 < out.length ∧ ∃ (G : Nat) (n : Int), A5 = some ⟨G, 0, none⟩ ∧ w.cell? ⟨G, (out.length - 1) * 2, none⟩ = some (.int .i64 n) ∧ (n == kind) = false) := by
      rcases hfresh with rfl | ⟨init, cp, rfl, hn0⟩
      · exact .inl rfl
      · right
        obtain ⟨G, gc, ub, e, hG1, hG2, hub, hne, hhd, hlast, hfr, hset⟩ := Nest.last (hd := chHd) (inn := chIn) (fun _ => rfl) (by decide) hN
        injection e with e
        refine ⟨by simp, G, cp.kind, e, ?_, by simpa using hn0⟩
        rw [List.length_append, List.length_singleton, Nat.add_sub_cancel]
        exact hhd 0 _ rfl
    clear hown hpush hfresh hN hcl
    have done : ∀ (w2 : World) (g cc : Nat), (w.alloc (.cells #[.string (bstr line)] 9)).grownBy w2 (Value.slice A5 out.length c5).ownBlock → w2.ownsRow B 109 2 (.slice (some ⟨g, 0, none⟩) (out.length + 1) cc) (out.length + 1) (xs ++ [.int .i64 kind, .slice (some ⟨w.heap.size, 0, none⟩) 1 1]) →
        (∀ w0, Below B w0 (w.alloc (.cells #[.string (bstr line)] 9)) → Below B w0 w2) → AddPost B out kind line w (.returned (.slice (some ⟨g, 0, none⟩) (out.length + 1) cc)) w2 := by
      intro w2 g cc hg hown hbel
      refine ⟨_, rfl, ?_, fun w0 h0 => hbel w0 (h0.alloc hB _)⟩
      rw [HCB.out]
      exact HPU.out _ w2 _ ⟨kind, [line]⟩ _ (World.grownBy_alloc w _ none) (own_lit hB _ [.string (bstr line)] (by simp [maxLen])) (fun g hg => Nat.le_of_eq (Option.some.inj hg)) hg hown
    have HDN := Lib.hid done
    clear done
    rcases hguard with h0 | ⟨h0, G, n, rfl, hcn, hn0⟩
    · simp only [h0] at hol HO HDN ⊢
      go_enter Try.func92, Try.ntmps92
      go_wp2_with (at_builtin; go_must (refine app_new (w := w.alloc (.cells #[.string (bstr line)] 9)) rfl (.tmp 35) (.tmp 40) 57 rfl 109 (.agg #[.int .i64 0, .slice none 0 0]) 2 32 Try.underlying57 change_info rfl (by decide) (m := 1) [.int .i64 kind, .slice (some ⟨w.heap.size, 0, none⟩) 1 1] (HO.out.alloc _) (by simp; omega) rfl (by rw [World.size_alloc]; rfl) rfl (by decide) (by simp [Value.oneCell']) (by unfold maxLen; omega) (by omega) ?_); intro g1 cc1 w2 HO1 HG1 HB2 HL1)
      go_ret
      exact HDN.out w2 g1 cc1 HG1.out HO1.out HB2.out
    · obtain ⟨k, hk⟩ : ∃ k, out.length = k + 1 := ⟨out.length - 1, by omega⟩
      rw [show out.length - 1 = k by omega] at hcn
      simp only [hk] at hol HO HDN ⊢
      have hk3 : (k : Int) ≤ 3000 := by omega
      go_enter Try.func92, Try.ntmps92
      go_wp2_with (at_builtin; go_must (refine app_new (w := w.alloc (.cells #[.string (bstr line)] 9)) rfl (.tmp 35) (.tmp 40) 57 rfl 109 (.agg #[.int .i64 0, .slice none 0 0]) 2 32 Try.underlying57 change_info rfl (by decide) (m := 1) [.int .i64 kind, .slice (some ⟨w.heap.size, 0, none⟩) 1 1] (HO.out.alloc _) (by simp; omega) rfl (by rw [World.size_alloc]; rfl) rfl (by decide) (by simp [Value.oneCell']) (by unfold maxLen; omega) (by omega) ?_); intro g1 cc1 w2 HO1 HG1 HB2 HL1)
      go_ret
      exact HDN.out w2 g1 cc1 HG1.out HO1.out HB2.out
  · obtain ⟨init, cp, rfl⟩ : ∃ init cp, out = init ++ [cp] := ⟨_, _, (List.dropLast_concat_getLast (fun h => hfresh (.inl h))).symm⟩
    have hn0 : cp.kind = kind := Classical.not_not.1 fun h => hfresh (.inr ⟨init, cp, rfl, h⟩)
    clear hfresh
    have HCB := Lib.hid (addL_same init cp kind line hn0)
    obtain ⟨G, gc, ub, rfl, hG1, hG2, hub, hne, hhd, hlast, hfr, hset⟩ := Nest.last (hd := chHd) (inn := chIn) (fun _ => rfl) (by decide) hN
    have hcn : w.cell? ⟨G, init.length * 2, none⟩ = some (.int .i64 kind) := by rw [← hn0]; exact hhd 0 _ rfl
    have hcl1 : w.cell? ⟨G, init.length * 2 + 1, none⟩ = some ub := hlast
    have HU := Lib.hid hub
    have HSET := Lib.hid hset
    have HFR := Lib.hid hfr
    have HNE2 := Lib.hid hne
    have hcpl : cp.ls.length ≤ 2000 := hcl cp (by simp)
    have HINL := Lib.hid (chIn_len cp)
    simp only [List.length_append, List.length_cons, List.length_nil] at hol
    have hk3 : (init.length : Int) ≤ 3000 := by omega
    have HN0 := Lib.hid hn0
    clear hub hset hfr hne hhd hlast hn0 hN hcl
    have done : ∀ (w2 : World) (g cc : Nat), w2.ownsRow B 9 1 (.slice (some ⟨g, 0, none⟩) ((chIn cp).length + 1) cc) ((chIn cp).length + 1) (chIn cp ++ [.string (bstr line)]) → w.grownBy w2 ub.ownBlock → (∀ w0, Below B w0 w → Below B w0 w2) → (ub.ownBlock = some g ∨ w.heap.size ≤ g) →
        AddPost B (init ++ [cp]) kind line w (.returned (.slice (some ⟨G, 0, none⟩) (init.length + 1) gc)) (w2.setCell ⟨G, init.length * 2 + 1, none⟩ (.slice (some ⟨g, 0, none⟩) ((chIn cp).length + 1) cc)) := by
      intro w2 g cc hown hg hbel hloc
      have e : chIn ⟨cp.kind, cp.ls ++ [line]⟩ = chIn cp ++ [.string (bstr line)] := by simp [chIn, strs]
      refine ⟨_, rfl, ?_, fun w0 h0 => (hbel w0 h0).setCell hG1 _⟩
      rw [HCB.out]
      refine HSET.out w2 _ ⟨cp.kind, cp.ls ++ [line]⟩ rfl ?_ hg ?_
      · rw [e, List.length_append, List.length_singleton]; exact hown
      · rcases hloc with h | h
        · exact .inl h.symm
        · exact .inr ⟨g, rfl, h⟩
    have HDN := Lib.hid done
    clear done
    obtain ⟨A6, c6, rfl, hn6, hc6, _⟩ := own_form HU.out
    go_enter Try.func92, Try.ntmps92
    go_wp2_with (at_builtin; refine app_str rfl (.tmp 28) (.tmp 30) rfl HU.out hB rfl rfl (by have := HINL.out; omega) ?_; intro g1 cc1 w2 HO1 HG1 HB2 HL1; have hc2 : w2.cell? ⟨G, init.length * 2 + 1, none⟩ = some (Value.slice A6 (chIn cp).length c6) := (World.cell?_of_block (HG1.out.block G hG2 (fun e => HNE2.out e.symm))).trans hcl1; have hf2 := HFR.out w2 (HG1.out.block G hG2 (fun e => HNE2.out e.symm)) (init.length * 2 + 1))
    go_ret
    exact HDN.out _ _ _ HO1.out HG1.out HB2.out HL1.out

set_option maxRecDepth 100000 in
set_option maxHeartbeats 2000000 in
theorem put_any (B : Nat) (v : Value) (out : List Ch) (kind : Int) (line : List UInt8) (w : World) (hN : Nest chHd chIn 2 109 9 B w v out) (hB : B ≤ w.heap.size) (hol : out.length ≤ 2000) (hcl : ∀ c ∈ out, c.ls.length ≤ 2000) :
    Calls Try.prog 76 #[v, .int .i64 kind, .string (bstr line)] w (AddPost B out kind line w) := by
  by_cases hfresh : out = [] ∨ ∃ init c, out = init ++ [c] ∧ c.kind ≠ kind
  · have HCB : Hid (addL out kind line = out ++ [⟨kind, [line]⟩]) := by
      rcases hfresh with rfl | ⟨init, cp, rfl, hn0⟩
      · rfl
      · exact addL_new init cp kind line hn0
    obtain ⟨xs, hown, hpush⟩ := Nest.open_ (by decide) hN
    have HO := Lib.hid hown
    have HPU := Lib.hid hpush
    obtain ⟨A5, c5, rfl, hn5, hc5, _⟩ := own_form hown
    have hguard : out.length = 0 ∨ (0 < out.length ∧ ∃ (G : Nat) (n : Int), A5 = some ⟨G, 0, none⟩ ∧ w.cell? ⟨G, (out.length - 1) * 2, none⟩ = some (.int .i64 n) ∧ (n == kind) = false) := by
      rcases hfresh with rfl | ⟨init, cp, rfl, hn0⟩
      · exact .inl rfl
      · right
        obtain ⟨G, gc, ub, e, hG1, hG2, hub, hne, hhd, hlast, hfr, hset⟩ := Nest.last (hd := chHd) (inn := chIn) (fun _ => rfl) (by decide) hN
        injection e with e
        refine ⟨by simp, G, cp.kind, e, ?_, by simpa using hn0⟩
        rw [List.length_append, List.length_singleton, Nat.add_sub_cancel]
        exact hhd 0 _ rfl
    clear hown hpush hfresh hN hcl
    have done : ∀ (w2 : World) (g cc : Nat), (w.alloc (.cells #[.string (bstr line)] 9)).grownBy w2 (Value.slice A5 out.length c5).ownBlock → w2.ownsRow B 109 2 (.slice (some ⟨g, 0, none⟩) (out.length + 1) cc) (out.length + 1) (xs ++ [.int .i64 kind, .slice (some ⟨w.heap.size, 0, none⟩) 1 1]) →
        (∀ w0, Below B w0 (w.alloc (.cells #[.string (bstr line)] 9)) → Below B w0 w2) → AddPost B out kind line w (.returned (.slice (some ⟨g, 0, none⟩) (out.length + 1) cc)) w2 := by
      intro w2 g cc hg hown hbel
      refine ⟨_, rfl, ?_, fun w0 h0 => hbel w0 (h0.alloc hB _)⟩
      rw [HCB.out]
      exact HPU.out _ w2 _ ⟨kind, [line]⟩ _ (World.grownBy_alloc w _ none) (own_lit hB _ [.string (bstr line)] (by simp [maxLen])) (fun g hg => Nat.le_of_eq (Option.some.inj hg)) hg hown
    have HDN := Lib.hid done
    clear done
    rcases hguard with h0 | ⟨h0, G, n, rfl, hcn, hn0⟩
    · simp only [h0] at hol HO HDN ⊢
      go_enter Try.func76, Try.ntmps76
      go_wp2_with (at_builtin; go_must (refine app_new (w := w.alloc (.cells #[.string (bstr line)] 9)) rfl (.tmp 37) (.tmp 42) 57 rfl 109 (.agg #[.int .i64 0, .slice none 0 0]) 2 32 Try.underlying57 change_info rfl (by decide) (m := 1) [.int .i64 kind, .slice (some ⟨w.heap.size, 0, none⟩) 1 1] (HO.out.alloc _) (by simp; omega) rfl (by rw [World.size_alloc]; rfl) rfl (by decide) (by simp [Value.oneCell']) (by unfold maxLen; omega) (by omega) ?_); intro g1 cc1 w2 HO1 HG1 HB2 HL1)
      go_ret
      exact HDN.out w2 g1 cc1 HG1.out HO1.out HB2.out
    · obtain ⟨k, hk⟩ : ∃ k, out.length = k + 1 := ⟨out.length - 1, by omega⟩
      rw [show out.length - 1 = k by omega] at hcn
      simp only [hk] at hol HO HDN ⊢
      have hk3 : (k : Int) ≤ 3000 := by omega
      go_enter Try.func76, Try.ntmps76
      go_wp2_with (at_builtin; go_must (refine app_new (w := w.alloc (.cells #[.string (bstr line)] 9)) rfl (.tmp 37) (.tmp 42) 57 rfl 109 (.agg #[.int .i64 0, .slice none 0 0]) 2 32 Try.underlying57 change_info rfl (by decide) (m := 1) [.int .i64 kind, .slice (some ⟨w.heap.size, 0, none⟩) 1 1] (HO.out.alloc _) (by simp; omega) rfl (by rw [World.size_alloc]; rfl) rfl (by decide) (by simp [Value.oneCell']) (by unfold maxLen; omega) (by omega) ?_); intro g1 cc1 w2 HO1 HG1 HB2 HL1)
      go_ret
      exact HDN.out w2 g1 cc1 HG1.out HO1.out HB2.out
  · obtain ⟨init, cp, rfl⟩ : ∃ init cp, out = init ++ [cp] := ⟨_, _, (List.dropLast_concat_getLast (fun h => hfresh (.inl h))).symm⟩
    have hn0 : cp.kind = kind := Classical.not_not.1 fun h => hfresh (.inr ⟨init, cp, rfl, h⟩)
    clear hfresh
    have HCB := Lib.hid (addL_same init cp kind line hn0)
    obtain ⟨G, gc, ub, rfl, hG1, hG2, hub, hne, hhd, hlast, hfr, hset⟩ := Nest.last (hd := chHd) (inn := chIn) (fun _ => rfl) (by decide) hN
    have hcn : w.cell? ⟨G, init.length * 2, none⟩ = some (.int .i64 kind) := by rw [← hn0]; exact hhd 0 _ rfl
    have hcl1 : w.cell? ⟨G, init.length * 2 + 1, none⟩ = some ub := hlast
    have HU := Lib.hid hub
    have HSET := Lib.hid hset
    have HFR := Lib.hid hfr
    have HNE2 := Lib.hid hne
    have hcpl : cp.ls.length ≤ 2000 := hcl cp (by simp)
    have HINL := Lib.hid (chIn_len cp)
    simp only [List.length_append, List.length_cons, List.length_nil] at hol
    have hk3 : (init.length : Int) ≤ 3000 := by omega
    have HN0 := Lib.hid hn0
    clear hub hset hfr hne hhd hlast hn0 hN hcl
    have done : ∀ (w2 : World) (g cc : Nat), w2.ownsRow B 9 1 (.slice (some ⟨g, 0, none⟩) ((chIn cp).length + 1) cc) ((chIn cp).length + 1) (chIn cp ++ [.string (bstr line)]) → w.grownBy w2 ub.ownBlock → (∀ w0, Below B w0 w → Below B w0 w2) → (ub.ownBlock = some g ∨ w.heap.size ≤ g) →
        AddPost B (init ++ [cp]) kind line w (.returned (.slice (some ⟨G, 0, none⟩) (init.length + 1) gc)) (w2.setCell ⟨G, init.length * 2 + 1, none⟩ (.slice (some ⟨g, 0, none⟩) ((chIn cp).length + 1) cc)) := by
      intro w2 g cc hown hg hbel hloc
      have e : chIn ⟨cp.kind, cp.ls ++ [line]⟩ = chIn cp ++ [.string (bstr line)] := by simp [chIn, strs]
      refine ⟨_, rfl, ?_, fun w0 h0 => (hbel w0 h0).setCell hG1 _⟩
      rw [HCB.out]
      refine HSET.out w2 _ ⟨cp.kind, cp.ls ++ [line]⟩ rfl ?_ hg ?_
      · rw [e, List.length_append, List.length_singleton]; exact hown
      · rcases hloc with h | h
        · exact .inl h.symm
        · exact .inr ⟨g, rfl, h⟩
    have HDN := Lib.hid done
    clear done
    obtain ⟨A6, c6, rfl, hn6, hc6, _⟩ := own_form HU.out
    go_enter Try.func76, Try.ntmps76
    go_wp2_with (at_builtin; refine app_str rfl (.tmp 30) (.tmp 32) rfl HU.out hB rfl rfl (by have := HINL.out; omega) ?_; intro g1 cc1 w2 HO1 HG1 HB2 HL1; have hc2 : w2.cell? ⟨G, init.length * 2 + 1, none⟩ = some (Value.slice A6 (chIn cp).length c6) := (World.cell?_of_block (HG1.out.block G hG2 (fun e => HNE2.out e.symm))).trans hcl1; have hf2 := HFR.out w2 (HG1.out.block G hG2 (fun e => HNE2.out e.symm)) (init.length * 2 + 1))
    go_ret
    exact HDN.out _ _ _ HO1.out HG1.out HB2.out HL1.out
end Go.Proofs.Ytofahmdjhpbecaa
