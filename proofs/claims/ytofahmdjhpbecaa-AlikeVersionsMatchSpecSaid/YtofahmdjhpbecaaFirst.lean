/-
  'Firsts' of both packages: for each text the place of the first one that is the same; ErrLarge where there are too many, or one is too long.
-/
import Derived.Test.YtofahmdjhpbecaaProg
import Derived.Test.YtofahmdjhpbecaaBase
import Derived.Test.YtofahmdjhpbecaaMaps
import Derived.Test.YtofahmdjhpbecaaEq
namespace Go.Proofs.Ytofahmdjhpbecaa
open Go.RowKit
set_option linter.unusedVariables false
set_option linter.unusedSimpArgs false

/-- A text is too long, or there are too many. -/
def firstsBad (l : List (List UInt8)) : Bool := decide (300 < l.length) || l.any fun b => decide (20000 < b.length)
/-- The first k answers. -/
def firstsK (l : List (List UInt8)) (k : Nat) : List Int := (l.take k).map fun b => (l.idxOf b : Int)
theorem firstsK_succ (l : List (List UInt8)) (k : Nat) (h : k < l.length) : firstsK l (k + 1) = firstsK l k ++ [(l.idxOf l[k] : Int)] := by
  unfold firstsK
  rw [List.take_succ_eq_append_getElem h, List.map_append]; rfl
theorem firstsK_len (l : List (List UInt8)) (k : Nat) (h : k ≤ l.length) : (firstsK l k).length = k := by simp [firstsK]; omega
/-- What the map holds. -/
def firstsF (l : List (List UInt8)) (k : Nat) : Lit → Option Int
  | .string b => if b ∈ l.take k then some (l.idxOf b) else none
  | _ => none
theorem firstsF_zero (l : List (List UInt8)) : firstsF l 0 = fun _ => none := by funext x; cases x <;> simp [firstsF]
theorem idx_new {l : List (List UInt8)} {k : Nat} (h : k < l.length) (hn : l[k] ∉ l.take k) : l.idxOf l[k] = k := by
  have e : l = l.take k ++ l[k] :: l.drop (k + 1) := by rw [← List.drop_eq_getElem_cons h, List.take_append_drop]
  generalize hb : l[k] = b at *
  conv => lhs; rw [e]
  rw [List.idxOf_append, if_neg hn, List.idxOf_cons_self]
  simp; omega
theorem mem_take_succ {α : Type} {l : List α} {k : Nat} (h : k < l.length) (b : α) : b ∈ l.take (k + 1) ↔ b ∈ l.take k ∨ b = l[k] := by
  rw [List.take_succ_eq_append_getElem h, List.mem_append, List.mem_singleton]
theorem firstsF_in {l : List (List UInt8)} {k : Nat} (h : k < l.length) (hn : l[k] ∈ l.take k) : firstsF l (k + 1) = firstsF l k := by
  funext x
  unfold firstsF
  split
  · rename_i b
    by_cases hb : b ∈ l.take k
    · rw [if_pos ((mem_take_succ h b).2 (.inl hb)), if_pos hb]
    · have : b ≠ l[k] := fun e => hb (e ▸ hn)
      rw [if_neg (fun hm => ((mem_take_succ h b).1 hm).elim hb this), if_neg hb]
  · rfl
theorem firstsF_new {l : List (List UInt8)} {k : Nat} (h : k < l.length) (hn : l[k] ∉ l.take k) : firstsF l (k + 1) = fun x => if x.sameKey (.string l[k]) then some (k : Int) else firstsF l k x := by
  funext x
  by_cases e : x = .string l[k]
  · subst e
    rw [if_pos (WideAt.sameKey_self (by trivial))]
    show (if l[k] ∈ l.take (k + 1) then some (l.idxOf l[k] : Int) else none) = _
    rw [idx_new h hn, if_pos ((mem_take_succ h _).2 (.inr rfl))]
  · rw [if_neg (by rw [Maps.sameKey_ne e]; simp)]
    unfold firstsF
    split
    · rename_i b
      have hb : b ≠ l[k] := fun e' => e (by rw [e'])
      by_cases hm : b ∈ l.take k
      · rw [if_pos ((mem_take_succ h b).2 (.inl hm)), if_pos hm]
      · rw [if_neg (fun hm' => ((mem_take_succ h b).1 hm').elim hm hb), if_neg hm]
    · rfl
theorem firstsF_at {l : List (List UInt8)} {k : Nat} (h : k < l.length) (hn : l[k] ∈ l.take k) : firstsF l k (.string l[k]) = some (l.idxOf l[k] : Int) := if_pos hn
theorem firstsF_none {l : List (List UInt8)} {k : Nat} (h : k < l.length) (hn : l[k] ∉ l.take k) : firstsF l k (.string l[k]) = none := if_neg hn

def firstsFault (l : List (List UInt8)) : Int := if firstsBad l then 2 else 0
def firstsOut (l : List (List UInt8)) : List Int := if firstsBad l then [] else firstsK l l.length
def FirstsPost (l : List (List UInt8)) (w : World) (e : Ending) (w' : World) : Prop :=
  ∃ v, e = .returned (.tuple #[v, .int .i64 (firstsFault l)]) ∧ (Rp.sl (Rp.int .i64)).ok w' (· < w'.heap.size) [v] (firstsOut l) ∧ Below w.heap.size w w'
theorem firstsPost_bad {l : List (List UInt8)} {w w' : World} (hb : firstsBad l = true) (h : Below w.heap.size w w') : FirstsPost l w (.returned (.tuple #[.slice none 0 0, .int .i64 2])) w' :=
  ⟨_, by rw [firstsFault, if_pos hb], by rw [firstsOut, if_pos hb]; exact Rp.sl_nil _ _ _, h⟩
theorem firsts_wf (l : List (List UInt8)) (k : Nat) (hl : l.length ≤ 300) : ∀ x ∈ firstsK l k, (Lit.int .i64 x).wf = true := by
  intro x hx
  obtain ⟨b, _, rfl⟩ := List.mem_map.1 hx
  have := List.idxOf_le_length (a := b) (l := l)
  exact WalkArith.wf_i64 (by omega)
theorem firstsPost_good {l : List (List UInt8)} {w w' : World} {v : Value} {B e : Nat} (hl : l.length ≤ 300) (hs : ∀ b ∈ l, b.length ≤ 20000) (hown : w'.ownsRow B e 1 v l.length ((firstsK l l.length).map (.int .i64))) (h : Below w.heap.size w w') : FirstsPost l w (.returned (.tuple #[v, .int .i64 0])) w' := by
  have hb : firstsBad l = false := by
    simp only [firstsBad, Bool.or_eq_false_iff, decide_eq_false_iff_not, List.any_eq_false, decide_eq_true_eq]
    exact ⟨by omega, fun b hb => by have := hs b hb; omega⟩
  refine ⟨_, by rw [firstsFault, hb]; rfl, ?_, h⟩
  rw [firstsOut, hb]
  exact Rp.int_own hown (firsts_wf l _ hl) (fun g hg => (hown.lt g hg).2)

theorem int_info : (Try.prog.info? 3).map (fun i => (i.zero, i.size, i.bytes)) = some (some (.int .i64 0), 1, 8) := by kernel_rfl
theorem int_zero (w : World) : (zeroValue 3).run Try.prog w = .ok (.int .i64 0) w := by kernel_rfl

set_option maxRecDepth 100000 in
set_option maxHeartbeats 1000000 in
theorem firsts_any (v : Value) (l : List (List UInt8)) (w : World) (h : (Rp.sl (Rp.sl Rp.u8)).ok w (· < w.heap.size) [v] l) :
    Calls Try.prog 14 #[v] w (FirstsPost l w) := by
  obtain ⟨A, c, rfl, hl, hc, _⟩ := Rp.sl_open h
  unfold maxLen at hc
  by_cases hbig : 300 < l.length
  · have hb := Lib.hid (firstsPost_bad (l := l) (w := w) (w' := w) (by simp [firstsBad, hbig]) (Below.refl _ _))
    go_enter Try.func14, Try.ntmps14
    go_wp2
    go_ret2
    exact hb.out
  · have hmm := @run_makeMap Try.prog
    have H := Lib.hid h
    clear h
    go_enter Try.func14, Try.ntmps14
    go_wp2
    have HM := Lib.hid hmm
    clear hmm
    go_loopw [5, 16] (fun out i wr => ∃ k : Nat, k ≤ l.length ∧ i = .int .i64 k ∧ Hid (∀ b ∈ l.take k, b.length ≤ 20000) ∧ Hid (wr.ownsRow (w.heap.size + 1) 3 1 out k ((firstsK l k).map (.int .i64))) ∧ Hid (IMap Try.prog 9 3 .i64 wr w.heap.size k (firstsF l k)) ∧ Hid (Below w.heap.size w wr))
      (fun _ i _ => l.length - (intOf i).toNat)
    case atStart => exact ⟨0, by omega, rfl, by simp [Hid], World.ownsRow_nil _ _ _ _, (by rw [firstsF_zero]; exact IMap.made w), (Below.refl _ _).alloc (Nat.le_refl _) _⟩
    case round =>
      obtain ⟨k, hk, rfl, HT, HO, HI, HB⟩ := hrel
      by_cases hlt : k < l.length
      · obtain ⟨ad, u, rfl, _, hu, hcell⟩ := Rp.sl_at1 rfl (Rp.below _ H.out HB.out) hlt
        obtain ⟨A2, c2, rfl, hl2, hc2, _⟩ := Rp.sl_open hu
        unfold maxLen at hc2
        have HU := Lib.hid hu
        clear hu
        by_cases hlong : 20000 < l[k].length
        · have hb := Lib.hid (firstsPost_bad (l := l) (w := w) (w' := wr) (by simp [firstsBad]; exact .inr ⟨_, List.getElem_mem hlt, hlong⟩) HB.out)
          go_wp2
          go_ret2
          exact hb.out
        · have hcv := conv_bytes (P := Try.prog) 22 5 9 Try.underlying22 Try.underlying5 Try.underlying9 HU.out
          have hkey : keyOf Try.prog 9 (.string (bstr l[k])) = some (.string l[k]) := WideMaps.keyOf_string_mk Try.underlying9 (by rw [bstr_size]; unfold maxLen; omega)
          have hT : ∀ b ∈ l.take (k + 1), b.length ≤ 20000 := fun b hb => by
            rcases (mem_take_succ hlt b).1 hb with hb | rfl
            · exact HT.out b hb
            · omega
          have hlk := HI.out.look_ok (T := 83) (Maps.string_keyed Try.underlying9) Try.underlying83 Try.underlying3 int_zero hkey (by trivial)
          by_cases hin : l[k] ∈ l.take k
          · rw [firstsF_at hlt hin] at hlk
            have hlk2 := HI.out.look (T := 83) (Maps.string_keyed Try.underlying9) Try.underlying83 Try.underlying3 int_zero hkey (by trivial)
            rw [firstsF_at hlt hin] at hlk2
            simp only [Option.getD_some, Option.isSome_some] at hlk hlk2
            have HK := Lib.hid hkey
            have HT2 := Lib.hid hT
            clear hkey hT
            go_wp2_with (at_builtin; refine app_new rfl (.tmp 37) (.tmp 42) 24 rfl 3 (.int .i64 0) 1 8 Try.underlying24 int_info rfl (by decide) _ HO.out (by have := HI.out.lt; omega) rfl rfl rfl (by decide) (by simp [Value.oneCell']) (by unfold maxLen; omega) (by omega) ?_; intro g1 c1 w1 HO1 HG1 HB1 HL1)
            go_roundw
            case rel =>
              refine ⟨k + 1, by omega, by go_num, HT2, ?_, ?_, ?_⟩
              · rw [firstsK_succ l k hlt, List.map_append]; exact HO1.out
              · rw [firstsF_in hlt hin]
                exact (HI.out.grown HG1.out (fun e => by have := (HO.out.lt _ e.symm).1; omega)).mono (Nat.le_succ k)
              · exact HB.out.grown HG1.out (by have := HI.out.lt; omega) (fun g e => by have := (HO.out.lt _ e).1; omega)
            case measure => simp [intOf]; omega
          · rw [firstsF_none hlt hin] at hlk
            simp only [Option.getD_none, Option.isSome_none] at hlk
            have HK := Lib.hid hkey
            have HT2 := Lib.hid hT
            clear hkey hT
            have hO2 : ∀ w', wr.grownBy w' (some w.heap.size) → w'.ownsRow (w.heap.size + 1) 3 1 u5 k ((firstsK l k).map (.int .i64)) := fun w' hg =>
              HO.out.kept hg (by
                by_cases e : u5.ownBlock = none
                · exact .inl e
                · right; intro e2; have := (HO.out.lt _ e2).1; omega)
            have HO2 := Lib.hid hO2
            clear hO2
            go_wp2_with (first
              | (at_mapUpdate; refine imap_update rfl _ _ _ 83 rfl HI.out (Maps.string_keyed Try.underlying9) Try.underlying83 Try.underlying3 (by unfold maxLen; omega) (.string l[k]) rfl rfl rfl (WalkArith.wf_i64 (by omega)) HK.out (by trivial) ?_; intro w1 HI1 HG1; have hcv1 := conv_bytes (P := Try.prog) 22 5 9 Try.underlying22 Try.underlying5 Try.underlying9 (Rp.grown _ HU.out HG1.out (by have := HI.out.lt; omega) (fun g e => by injection e with e; omega)); have hlk1 := HI1.out.look (T := 83) (Maps.string_keyed Try.underlying9) Try.underlying83 Try.underlying3 int_zero HK.out (by trivial); rw [if_pos (WideAt.sameKey_self (by trivial))] at hlk1; simp only [Option.getD_some] at hlk1)
              | (at_builtin; refine app_new rfl (.tmp 37) (.tmp 42) 24 rfl 3 (.int .i64 0) 1 8 Try.underlying24 int_info rfl (by decide) _ (HO2.out _ HG1.out) (by have := HI1.out.lt; omega) rfl rfl rfl (by decide) (by simp [Value.oneCell']) (by unfold maxLen; omega) (by omega) ?_; intro g2 c2 w2 HO3 HG3 HB3 HL3))
            go_roundw
            case rel =>
              refine ⟨k + 1, by omega, by go_num, HT2, ?_, ?_, ?_⟩
              · rw [firstsK_succ l k hlt, List.map_append, idx_new hlt hin]; exact HO3.out
              · rw [firstsF_new hlt hin]
                exact HI1.out.grown HG3.out (fun e => by have := ((HO2.out _ HG1.out).lt _ e.symm).1; omega)
              · exact (HB.out.grown HG1.out (by have := HI.out.lt; omega) (fun g e => by injection e with e; omega)).grown HG3.out (by have := HI1.out.lt; omega) (fun g e => by have := ((HO2.out _ HG1.out).lt _ e).1; omega)
            case measure => simp [intOf]; omega
      · have hk2 : k = l.length := by omega
        subst hk2
        have hfin := Lib.hid (firstsPost_good (w := w) (w' := wr) (by omega) (fun b hb => HT.out b (by rw [List.take_length]; exact hb)) HO.out HB.out)
        go_wp2
        go_ret2
        exact hfin.out

theorem idx_before {l : List (List UInt8)} {b : List UInt8} {j : Nat} (h : j < l.idxOf b) (hj : j < l.length) : l[j] ≠ b := by
  intro e
  have hm : b ∈ l.take (j + 1) := (mem_take_succ hj b).2 (.inr e.symm)
  have := List.idxOf_lt_length_of_mem hm
  have e2 : l.idxOf b = (l.take (j + 1)).idxOf b := by
    conv => lhs; rw [← List.take_append_drop (j + 1) l]
    rw [List.idxOf_append, if_pos hm]
  rw [List.length_take] at this
  omega
theorem idx_self {l : List (List UInt8)} {i : Nat} (hi : i < l.length) : l.idxOf l[i] ≤ i := by
  exact Nat.le_of_not_lt fun h => idx_before (l := l) (b := l[i]) (j := i) h hi rfl

set_option maxRecDepth 100000 in
set_option maxHeartbeats 1000000 in
theorem refFirsts_any (v : Value) (l : List (List UInt8)) (w : World) (h : (Rp.sl (Rp.sl Rp.u8)).ok w (· < w.heap.size) [v] l) :
    Calls Try.prog 15 #[v] w (FirstsPost l w) := by
  obtain ⟨A, c, rfl, hl, hc, _⟩ := Rp.sl_open h
  unfold maxLen at hc
  by_cases hbig : 300 < l.length
  · have hb := Lib.hid (firstsPost_bad (l := l) (w := w) (w' := w) (by simp [firstsBad, hbig]) (Below.refl _ _))
    go_enter Try.func15, Try.ntmps15
    go_wp2
    go_ret2
    exact hb.out
  · have H := Lib.hid h
    clear h
    go_enter Try.func15, Try.ntmps15
    go_wp2
    go_loop [15] (fun i => ∃ k : Nat, k ≤ l.length ∧ i = .int .i64 k ∧ Hid (∀ b ∈ l.take k, b.length ≤ 20000))
      (fun i => l.length - (intOf i).toNat)
    case atStart => exact ⟨0, by omega, rfl, by simp [Hid]⟩
    case round =>
      obtain ⟨k, hk, rfl, HT⟩ := hrel
      by_cases hlt : k < l.length
      · obtain ⟨ad, u, rfl, _, hu, hcell⟩ := Rp.sl_at1 rfl H.out hlt
        obtain ⟨A2, c2, rfl, hl2, hc2, _⟩ := Rp.sl_open hu
        unfold maxLen at hc2
        clear hu
        by_cases hlong : 20000 < l[k].length
        · have hb := Lib.hid (firstsPost_bad (l := l) (w := w) (w' := w) (by simp [firstsBad]; exact .inr ⟨_, List.getElem_mem hlt, hlong⟩) (Below.refl _ _))
          go_wp2
          go_ret2
          exact hb.out
        · go_wp2
          go_round
          case rel =>
            refine ⟨k + 1, by omega, by go_num, fun b hb => ?_⟩
            rcases (mem_take_succ hlt b).1 hb with hb | rfl
            · exact HT.out b hb
            · omega
          case measure => simp [intOf]; omega
      · have HT2 : Hid (∀ b ∈ l, b.length ≤ 20000) := fun b hb => HT.out b (by rw [List.take_of_length_le (by omega)]; exact hb)
        clear HT
        go_wp2
        go_loopw [6, 25] (fun out i wr => ∃ k : Nat, k ≤ l.length ∧ i = .int .i64 k ∧ Hid (wr.ownsRow w.heap.size 3 1 out k ((firstsK l k).map (.int .i64))) ∧ Hid (Below w.heap.size w wr))
          (fun _ i _ => l.length - (intOf i).toNat)
        case atStart => exact ⟨0, by omega, rfl, World.ownsRow_nil _ _ _ _, Below.refl _ _⟩
        case round =>
          obtain ⟨k, hk, rfl, HO, HB⟩ := hrel
          by_cases hlt : k < l.length
          · have HW := Lib.hid (Rp.below _ H.out HB.out)
            obtain ⟨ad, u, rfl, _, hu, hcell⟩ := Rp.sl_at1 rfl HW.out hlt
            obtain ⟨A2, c2, rfl, hl2, hc2, _⟩ := Rp.sl_open hu
            have HU := Lib.hid hu
            clear hu
            have hix := idx_self hlt
            obtain ⟨wo, rfl⟩ : ∃ wo : World, wo = wr := ⟨_, rfl⟩
            go_wp2
            go_loopw [9] (fun j wr => ∃ m n : Nat, m ≤ l.idxOf l[k] ∧ j = .int .i64 m ∧ wr = wo.drewN n) (fun j _ => l.length - (intOf j).toNat)
            case atStart => exact ⟨0, 0, by omega, rfl, rfl⟩
            case round =>
              obtain ⟨m, n, hm, rfl, rfl⟩ := hrel
              have hml : m < l.length := by omega
              obtain ⟨ad3, u3, e3, _, hu3, hcell3⟩ := Rp.sl_at1 rfl HW.out hml
              injection e3 with e3
              subst e3
              obtain ⟨A3, c3, rfl, _, _, _⟩ := Rp.sl_open hu3
              have HU3 := Lib.hid hu3
              clear hu3
              go_wp2_with fail
              refine (eqBytes_any _ _ l[m] l[k] _ _ _ (Rp.drewN _ HU3.out n) (Rp.drewN _ HU.out n)).mono ?_
              rintro e w' ⟨rfl, n2, rfl⟩
              by_cases hmx : m < l.idxOf l[k]
              · rw [decide_eq_false (idx_before hmx hml)]
                go_wp2
                go_roundw
                case rel => exact ⟨m + 1, _, by omega, by go_num, rfl⟩
                case measure => simp [intOf]; omega
              · have hme : m = l.idxOf l[k] := by omega
                have hee : l[m] = l[k] := by
                  have := List.getElem_idxOf (x := l[k]) (xs := l) (by omega)
                  rw [← this]; congr 1
                rw [decide_eq_true hee]
                have HM := Lib.hid hme
                clear hme hee hmx
                have HO2 := Lib.hid (own_drewN HO.out (n + n2))
                have HB2 := Lib.hid (below_drewN HB.out (n + n2))
                go_wp2_with (at_builtin; refine app_new rfl (.tmp 39) (.tmp 43) 24 rfl 3 (.int .i64 0) 1 8 Try.underlying24 int_info rfl (by decide) _ HO2.out HB2.out.size rfl rfl rfl (by decide) (by simp [Value.oneCell']) (by unfold maxLen; omega) (by omega) ?_; intro g1 c1 w1 HO1 HG1 HB1 HL1)
                go_roundw
                case rel =>
                  refine ⟨k + 1, by omega, by go_num, ?_, HB1.out _ HB2.out⟩
                  rw [firstsK_succ l k hlt, List.map_append, ← HM.out]; exact HO1.out
                case measure => simp [intOf]; omega
          · have hk2 : k = l.length := by omega
            subst hk2
            have hfin := Lib.hid (firstsPost_good (w := w) (w' := wr) (by omega) HT2.out HO.out HB.out)
            go_wp2
            go_ret2
            exact hfin.out

end Go.Proofs.Ytofahmdjhpbecaa
