/-
  isText and readListed of package care.
-/
import Derived.Test.YtgfacedfndcgdaaGreatDoorManSh
namespace Go.Proofs.YtgfacedfndcgdaaGreatDoor
open Go.RowKit
set_option linter.unusedVariables false
set_option linter.unusedSimpArgs false

def entCells (x : Ent) : List Value := [.string (bstr x.path), .int .i64 x.size, .string (bstr x.digest)]
theorem ent_info : (Tryz.prog.info? 36).map (fun i => (i.zero, i.size, i.bytes)) = some (some (.agg #[.string ⟨#[]⟩, .int .i64 0, .string ⟨#[]⟩]), 3, 40) := by kernel_rfl
theorem ents_read {w : World} {B : Nat} {v : Value} {l : List Ent} {n : Nat} (h : w.ownsRow B 36 3 v n (l.flatMap entCells)) (hl : ∀ s ∈ l, s.path.length ≤ maxLen ∧ s.digest.length ≤ maxLen ∧ (Lit.int .i64 s.size).wf = true) : (Rp.sl entRp).ok w (· < w.heap.size) [v] l :=
  Rp.of_ownN (R := entRp) (by decide) (fun _ => rfl) h (fun g hg => (h.lt g hg).2) (fun s hs => ⟨[_], [_, _], rfl, ⟨rfl, (hl s hs).1⟩, ⟨[_], [_], rfl, ⟨rfl, (hl s hs).2.2⟩, ⟨rfl, (hl s hs).2.1⟩⟩⟩)
theorem results_row2 {P : Program} {fn : Func} {p u : Tmp} {ty : TypeId} (h : fn.results = #[.cell p ty, .tmp u]) (tmps : Array Value) (w : World) (g : Nat) (t : TypeId) (cs : List Value) (d : TypeDesc)
    (hp : tmps.getD p undef = .pointer (some ⟨g, 0, none⟩)) (hg : Blk w g t cs)
    (hu : P.underlying ty = some d) (hd : (match d with | .struct _ | .array _ _ => true | _ => false) = true) (hi : (P.info? ty).map (·.size) = some cs.toArray.size) :
    (results fn tmps).run P w = .ok (.tuple #[.agg cs.toArray, tmps.getD u undef]) w := by
  rw [results_cell_tmp h, hp]
  simp only [asAddr, Sem.run_pure, Result.andThen_ok, run_loadVar_row w g t ty cs.toArray (0, 0) d hg hu hd hi]
theorem pack_info : (Tryz.prog.info? 24).map (·.size) = some 2 := by kernel_rfl
theorem below_tr3 {B : Nat} {w a b : World} (h1 : Below B w a) (h2 : Below a.heap.size a b) (hB : B ≤ a.heap.size) : Below B w b :=
  ⟨h2.os.trans h1.os, h2.tape.trans h1.tape, h2.output.trans h1.output, Nat.le_trans h1.size h2.size, fun k hk => (h2.block k (by omega)).trans (h1.block k hk)⟩
theorem results_row3 {P : Program} {fn : Func} {p u v : Tmp} {ty : TypeId} (h : fn.results = #[.cell p ty, .tmp u, .tmp v]) (tmps : Array Value) (w : World) (g : Nat) (t : TypeId) (cs : List Value) (d : TypeDesc)
    (hp : tmps.getD p undef = .pointer (some ⟨g, 0, none⟩)) (hg : Blk w g t cs)
    (hu : P.underlying ty = some d) (hd : (match d with | .struct _ | .array _ _ => true | _ => false) = true) (hi : (P.info? ty).map (·.size) = some cs.toArray.size) :
    (results fn tmps).run P w = .ok (.tuple #[.agg cs.toArray, tmps.getD u undef, tmps.getD v undef]) w := by
  have hp2 : tmps[p]?.getD undef = .pointer (some ⟨g, 0, none⟩) := by simpa using hp
  simp only [results, h]
  simp [Sem.run_bind, Result.andThen, hp2, asAddr, run_loadVar_row w g t ty cs.toArray (0, 0) d hg hu hd hi]
def entX (s : List UInt8) : Option Ent :=
  match sg s with
  | [a, b, c] => if (txtB a && (numB b && txtB c)) = true then some ⟨c, numV b, a⟩ else none
  | _ => none
theorem entL_X (st : RS) (s : List UInt8) : entL st s = (entX s).map fun x => { st with ents := st.ents ++ [x] } := by
  unfold entL entX
  rcases hsg : sg s with _ | ⟨a, _ | ⟨b, _ | ⟨c, _ | ⟨d, r⟩⟩⟩⟩
  · rfl
  · rfl
  · rfl
  · dsimp only
    by_cases h : (txtB a && (numB b && txtB c)) = true
    · rw [if_pos h, if_pos h]; rfl
    · rw [if_neg h, if_neg h]; rfl
  · rfl
theorem entX_no {s : List UInt8} (h : (sg s).length ≠ 3) : entX s = none := by
  unfold entX
  split
  · rename_i a b c e; rw [e] at h; exact absurd rfl h
  · rfl
theorem entX_3 {s a b c : List UInt8} (h : sg s = [a, b, c]) : entX s = if (txtB a && (numB b && txtB c)) = true then some ⟨c, numV b, a⟩ else none := by
  unfold entX
  rw [h]
theorem ent_info3 : (Tryz.prog.info? 36).map (·.size) = some 3 := by kernel_rfl
set_option maxHeartbeats 400000 in
theorem isText_any (s : List UInt8) (w : World) (hs : s.length ≤ 10000000) :
    Calls Tryz.prog 20 #[.string (bstr s)] w fun e w' => e = .returned (.bool (txtB s)) ∧ w = w' := by
  have hsz : (bstr s).size = s.length := rfl
  go_enter Tryz.func20, Tryz.ntmps20
  go_wp2_with fail
  refine (isRow_any s (s.length : Int) w (by omega)).mono ?_
  rintro e w1 ⟨rfl, rfl⟩
  go_wp2_with fail
  go_ret
  exact ⟨rfl, rfl⟩
theorem three_of {l : List (List UInt8)} (h : l.length = 3) : ∃ a b c, l = [a, b, c] := by
  match l, h with
  | [a, b, c], _ => exact ⟨a, b, c, rfl⟩
def LsPost (s : List UInt8) (w : World) (e : Ending) (w' : World) : Prop :=
  ∃ x : Ent, ∃ ok : Bool, e = .returned (.tuple #[.agg #[.string (bstr x.path), .int .i64 x.size, .string (bstr x.digest)], .bool ok]) ∧ Below w.heap.size w w' ∧ (ok = true → entX s = some x) ∧ (ok = false → entX s = none)
theorem sg_len_le : ∀ (n : Nat) (s : List UInt8), s.length ≤ n → ∀ x ∈ sg s, x.length ≤ s.length
  | n, s, hn, x, hx => by
    rcases sp_cases 32 s with h | ⟨y, r, rfl, h⟩
    · rw [sg_one h, List.mem_singleton] at hx
      rw [hx]; exact Nat.le_refl _
    · rw [sg_cons h, List.mem_cons] at hx
      cases n with
      | zero => simp at hn
      | succ n =>
        rcases hx with rfl | hx
        · simp
        · have := sg_len_le n r (by simp at hn; omega) x hx
          simp; omega
set_option maxRecDepth 100000 in
set_option maxHeartbeats 8000000 in
theorem readListed_any (s : List UInt8) (w : World) (hG : GInt w) (hs : s.length ≤ 1000000) :
    Calls Tryz.prog 21 #[.string (bstr s)] w (LsPost s w) := by
  have hab := (Below.refl w.heap.size w).alloc (Nat.le_refl _) (.cells #[.string ⟨#[]⟩, .int .i64 0, .string ⟨#[]⟩] 36)
  have HK0 := Lib.hid (Blk.new w 36 [.string ⟨#[]⟩, .int .i64 0, .string ⟨#[]⟩])
  have HB0 := Lib.hid hab
  have hG0 := hG.ext hab
  have HSP := Lib.hid (splitSp_any s _ hG0 (by omega))
  clear hG hab hG0
  go_enter Tryz.func21, Tryz.ntmps21
  go_wp2_with fail
  refine HSP.out.mono ?_
  rintro e w1 ⟨rfl, hw1⟩
  have hal := (Below.refl (w.alloc (.cells #[.string ⟨#[]⟩, .int .i64 0, .string ⟨#[]⟩] 36)).heap.size (w.alloc (.cells #[.string ⟨#[]⟩, .int .i64 0, .string ⟨#[]⟩] 36))).alloc (Nat.le_refl _) (.cells ((sg s).map fun x => Value.string (bstr x)).toArray 9)
  rw [← hw1] at hal
  have HB := Lib.hid (below_tr3 HB0.out hal HB0.out.size)
  have HK := Lib.hid (HK0.out.same (same_below hal) HK0.out.lt)
  have HR : Hid (Blk w1 (w.heap.size + 1) 9 ((sg s).map fun x => Value.string (bstr x))) := Lib.hid (by
    rw [hw1]
    have := Blk.new (w.alloc (.cells #[.string ⟨#[]⟩, .int .i64 0, .string ⟨#[]⟩] 36)) 9 ((sg s).map fun x => Value.string (bstr x))
    rwa [World.size_alloc] at this)
  have hsz : (w.alloc (.cells #[.string ⟨#[]⟩, .int .i64 0, .string ⟨#[]⟩] 36)).heap.size = w.heap.size + 1 := World.size_alloc _ _
  rw [hsz]
  have k0 : w1.cell? ⟨w.heap.size, 0, none⟩ = some (.string ⟨#[]⟩) := HK.out.cell 0
  have k1 : w1.cell? ⟨w.heap.size, 1, none⟩ = some (.int .i64 0) := HK.out.cell 1
  have k2 : w1.cell? ⟨w.heap.size, 2, none⟩ = some (.string ⟨#[]⟩) := HK.out.cell 2
  have z0 : w1.frozen? ⟨w.heap.size, 0, none⟩ = false := HK.out.frozen 0
  have z1 : w1.frozen? ⟨w.heap.size, 1, none⟩ = false := HK.out.frozen 1
  have z2 : w1.frozen? ⟨w.heap.size, 2, none⟩ = false := HK.out.frozen 2
  clear hal hw1 hsz HSP HK0 HB0
  by_cases h3 : (sg s).length = 3
  case neg =>
    have HN := Lib.hid (entX_no h3)
    have hb3 : (((sg s).length : Int) != 3) = true := by simp; omega
    clear h3
    generalize sg s = ws at *
    have hbk := ((HK.out.set_ 0 (.string ⟨#[]⟩)).set_ 1 (.int .i64 0)).set_ 2 (.string ⟨#[]⟩)
    have HBK := Lib.hid hbk
    have HBB := Lib.hid (((HB.out.setCell (p := ⟨w.heap.size, 0, none⟩) (Nat.le_refl _) (.string ⟨#[]⟩)).setCell (p := ⟨w.heap.size, 1, none⟩) (Nat.le_refl _) (.int .i64 0)).setCell (p := ⟨w.heap.size, 2, none⟩) (Nat.le_refl _) (.string ⟨#[]⟩))
    clear hbk HK HB
    go_wp2_with fail
    refine bodyPost_ret (results_row2 rfl _ _ w.heap.size 36 [.string ⟨#[]⟩, .int .i64 0, .string ⟨#[]⟩] _ rfl HBK.out Tryz.underlying36 rfl ent_info3) rfl ?_
    exact ⟨⟨[], 0, []⟩, false, rfl, HBB.out, fun h => (by cases h), fun _ => HN.out⟩
  obtain ⟨a, b, c, habc⟩ := three_of h3
  have HX := Lib.hid (entX_3 habc)
  have HLE := Lib.hid (sg_len_le _ s (Nat.le_refl _))
  rw [habc] at HR HLE ⊢
  have hla : a.length ≤ 1000000 := by have := HLE.out a (by simp); omega
  have hlb : b.length ≤ 1000000 := by have := HLE.out b (by simp); omega
  have hlc : c.length ≤ 1000000 := by have := HLE.out c (by simp); omega
  have r0 : w1.cell? ⟨w.heap.size + 1, 0, none⟩ = some (.string (bstr a)) := HR.out.cell 0
  have r1 : w1.cell? ⟨w.heap.size + 1, 1, none⟩ = some (.string (bstr b)) := HR.out.cell 1
  have r2 : w1.cell? ⟨w.heap.size + 1, 2, none⟩ = some (.string (bstr c)) := HR.out.cell 2
  clear h3 habc HLE HR
  have hl3 : ([a, b, c] : List (List UInt8)).length = 3 := rfl
  rw [hl3]
  clear hl3
  go_wp2_with fail
  refine (isText_any a w1 (by omega)).mono ?_
  rintro e w2 ⟨rfl, hw⟩
  subst hw
  cases ha : txtB a with
  | false =>
    have HN : Hid (entX s = none) := Lib.hid (by rw [HX.out, ha]; rfl)
    clear ha HX
    have hbk := ((HK.out.set_ 0 (.string ⟨#[]⟩)).set_ 1 (.int .i64 0)).set_ 2 (.string ⟨#[]⟩)
    have HBK := Lib.hid hbk
    have HBB := Lib.hid (((HB.out.setCell (p := ⟨w.heap.size, 0, none⟩) (Nat.le_refl _) (.string ⟨#[]⟩)).setCell (p := ⟨w.heap.size, 1, none⟩) (Nat.le_refl _) (.int .i64 0)).setCell (p := ⟨w.heap.size, 2, none⟩) (Nat.le_refl _) (.string ⟨#[]⟩))
    clear hbk HK HB
    go_wp2_with fail
    refine bodyPost_ret (results_row2 rfl _ _ w.heap.size 36 [.string ⟨#[]⟩, .int .i64 0, .string ⟨#[]⟩] _ rfl HBK.out Tryz.underlying36 rfl ent_info3) rfl ?_
    exact ⟨⟨[], 0, []⟩, false, rfl, HBB.out, fun h => (by cases h), fun _ => HN.out⟩
  | true =>
  go_wp2_with fail
  refine (isText_any c w1 (by omega)).mono ?_
  rintro e w2 ⟨rfl, hw⟩
  subst hw
  cases hc : txtB c with
  | false =>
    have HN : Hid (entX s = none) := Lib.hid (by rw [HX.out, hc, Bool.and_false, Bool.and_false]; rfl)
    clear ha hc HX
    have hbk := ((HK.out.set_ 0 (.string ⟨#[]⟩)).set_ 1 (.int .i64 0)).set_ 2 (.string ⟨#[]⟩)
    have HBK := Lib.hid hbk
    have HBB := Lib.hid (((HB.out.setCell (p := ⟨w.heap.size, 0, none⟩) (Nat.le_refl _) (.string ⟨#[]⟩)).setCell (p := ⟨w.heap.size, 1, none⟩) (Nat.le_refl _) (.int .i64 0)).setCell (p := ⟨w.heap.size, 2, none⟩) (Nat.le_refl _) (.string ⟨#[]⟩))
    clear hbk HK HB
    go_wp2_with fail
    refine bodyPost_ret (results_row2 rfl _ _ w.heap.size 36 [.string ⟨#[]⟩, .int .i64 0, .string ⟨#[]⟩] _ rfl HBK.out Tryz.underlying36 rfl ent_info3) rfl ?_
    exact ⟨⟨[], 0, []⟩, false, rfl, HBB.out, fun h => (by cases h), fun _ => HN.out⟩
  | true =>
  have HX2 : Hid (entX s = if numB b = true then some ⟨c, numV b, a⟩ else none) := Lib.hid (by rw [HX.out, ha, hc, Bool.true_and, Bool.and_true])
  clear HX ha hc
  have hbz : (bstr b).size = b.length := rfl
  by_cases h1 : b.length < 1
  · have HN : Hid (entX s = none) := Lib.hid (by rw [HX2.out, if_neg (by rw [show numB b = false by unfold numB; rw [decide_eq_false (show ¬ 1 ≤ b.length by omega)]; simp]; decide)])
    have hb1 : (b.length : Int) < 1 := by omega
    clear HX2 h1
    have hbk := ((HK.out.set_ 0 (.string ⟨#[]⟩)).set_ 1 (.int .i64 0)).set_ 2 (.string ⟨#[]⟩)
    have HBK := Lib.hid hbk
    have HBB := Lib.hid (((HB.out.setCell (p := ⟨w.heap.size, 0, none⟩) (Nat.le_refl _) (.string ⟨#[]⟩)).setCell (p := ⟨w.heap.size, 1, none⟩) (Nat.le_refl _) (.int .i64 0)).setCell (p := ⟨w.heap.size, 2, none⟩) (Nat.le_refl _) (.string ⟨#[]⟩))
    clear hbk HK HB
    go_wp2_with fail
    refine bodyPost_ret (results_row2 rfl _ _ w.heap.size 36 [.string ⟨#[]⟩, .int .i64 0, .string ⟨#[]⟩] _ rfl HBK.out Tryz.underlying36 rfl ent_info3) rfl ?_
    exact ⟨⟨[], 0, []⟩, false, rfl, HBB.out, fun h => (by cases h), fun _ => HN.out⟩
  have hb1 : ¬ (b.length : Int) < 1 := by omega
  by_cases h9 : 9 < b.length
  · have HN : Hid (entX s = none) := Lib.hid (by rw [HX2.out, if_neg (by rw [show numB b = false by unfold numB; rw [decide_eq_false (show ¬ b.length ≤ 9 by omega)]; simp]; decide)])
    have hb9 : (9 : Int) < (b.length : Int) := by omega
    clear HX2 h9
    have hbk := ((HK.out.set_ 0 (.string ⟨#[]⟩)).set_ 1 (.int .i64 0)).set_ 2 (.string ⟨#[]⟩)
    have HBK := Lib.hid hbk
    have HBB := Lib.hid (((HB.out.setCell (p := ⟨w.heap.size, 0, none⟩) (Nat.le_refl _) (.string ⟨#[]⟩)).setCell (p := ⟨w.heap.size, 1, none⟩) (Nat.le_refl _) (.int .i64 0)).setCell (p := ⟨w.heap.size, 2, none⟩) (Nat.le_refl _) (.string ⟨#[]⟩))
    clear hbk HK HB
    go_wp2_with fail
    refine bodyPost_ret (results_row2 rfl _ _ w.heap.size 36 [.string ⟨#[]⟩, .int .i64 0, .string ⟨#[]⟩] _ rfl HBK.out Tryz.underlying36 rfl ent_info3) rfl ?_
    exact ⟨⟨[], 0, []⟩, false, rfl, HBB.out, fun h => (by cases h), fun _ => HN.out⟩
  have hb9 : ¬ (9 : Int) < (b.length : Int) := by omega
  have hd := Lib.hid (trim_any b digSet w1 (by omega) (by decide) (by decide))
  have HE := Lib.hid (trim_isEmpty b digSet)
  obtain ⟨c0, r, rfl⟩ : ∃ c0 r, b = c0 :: r := by
    cases b with
    | nil => simp at h1
    | cons c0 r => exact ⟨c0, r, rfl⟩
  have hg : ∀ h, (bstr (c0 :: r))[0]'h = c0 := fun _ => rfl
  have HNB : Hid (numB (c0 :: r) = ((c0 :: r).all (digSet.contains ·) && !(decide (c0 = 48) && decide (c0 :: r ≠ [48])))) := Lib.hid (by
    unfold numB
    rw [decide_eq_true (show 1 ≤ (c0 :: r).length by omega), decide_eq_true (show (c0 :: r).length ≤ 9 by omega), Bool.true_and, Bool.true_and]
    simp)
  have h0s : c0 = 48 → c0 :: r = [48] → ((bstr (c0 :: r)).toList == [48]) = true := fun _ h => by rw [bstr_toList, h]; rfl
  have h0n : c0 :: r ≠ [48] → ((bstr (c0 :: r)).toList == [48]) = false := fun h => by rw [bstr_toList, beq_eq_false_iff_ne]; exact h
  generalize hbb : c0 :: r = b at *
  have HBB0 := Lib.hid hbb
  clear hbb
  go_wp2_with fail
  refine hd.out.mono ?_
  rintro e w2 ⟨rfl, hb2⟩
  have HB2 := Lib.hid (below_tr3 HB.out hb2 HB.out.size)
  have HK2 := Lib.hid (HK.out.same (same_below hb2) HK.out.lt)
  have hrl : w.heap.size + 1 < w1.heap.size := World.block_lt_of_cell? w1 _ r0
  have q0 := (hb2.cell (p := ⟨w.heap.size + 1, 0, none⟩) hrl).trans r0
  have q1 := (hb2.cell (p := ⟨w.heap.size + 1, 1, none⟩) hrl).trans r1
  have q2 := (hb2.cell (p := ⟨w.heap.size + 1, 2, none⟩) hrl).trans r2
  clear hd hb2 HB HK k0 k1 k2 z0 z1 z2 r0 r1 r2 hrl
  have HB := HB2
  have HK := HK2
  have k0 : w2.cell? ⟨w.heap.size, 0, none⟩ = some (.string ⟨#[]⟩) := HK.out.cell 0
  have k1 : w2.cell? ⟨w.heap.size, 1, none⟩ = some (.int .i64 0) := HK.out.cell 1
  have k2 : w2.cell? ⟨w.heap.size, 2, none⟩ = some (.string ⟨#[]⟩) := HK.out.cell 2
  have z0 : w2.frozen? ⟨w.heap.size, 0, none⟩ = false := HK.out.frozen 0
  have z1 : w2.frozen? ⟨w.heap.size, 1, none⟩ = false := HK.out.frozen 1
  have z2 : w2.frozen? ⟨w.heap.size, 2, none⟩ = false := HK.out.frozen 2
  clear HB2 HK2
  generalize Lib.trimS b digSet = tx at *
  by_cases hall : b.all (digSet.contains ·) = true
  case neg =>
    have HN : Hid (entX s = none) := Lib.hid (by rw [HX2.out, if_neg (by rw [HNB.out, show b.all (digSet.contains ·) = false from by simpa using hall]; simp)])
    have hem : (bstr tx).toList.isEmpty = false := by rw [HE.out]; simpa using hall
    clear HX2 HNB h0s h0n hg hall HE
    have hbk := ((HK.out.set_ 0 (.string ⟨#[]⟩)).set_ 1 (.int .i64 0)).set_ 2 (.string ⟨#[]⟩)
    have HBK := Lib.hid hbk
    have HBB := Lib.hid (((HB.out.setCell (p := ⟨w.heap.size, 0, none⟩) (Nat.le_refl _) (.string ⟨#[]⟩)).setCell (p := ⟨w.heap.size, 1, none⟩) (Nat.le_refl _) (.int .i64 0)).setCell (p := ⟨w.heap.size, 2, none⟩) (Nat.le_refl _) (.string ⟨#[]⟩))
    clear hbk HK HB
    go_wp2_with fail
    refine bodyPost_ret (results_row2 rfl _ _ w.heap.size 36 [.string ⟨#[]⟩, .int .i64 0, .string ⟨#[]⟩] _ rfl HBK.out Tryz.underlying36 rfl ent_info3) rfl ?_
    exact ⟨⟨[], 0, []⟩, false, rfl, HBB.out, fun h => (by cases h), fun _ => HN.out⟩
  have hem : (bstr tx).toList.isEmpty = true := HE.out.trans hall
  by_cases h48 : c0 = 48
  · by_cases h0 : b = [48]
    · have hb48 : ((((bstr b)[0]'(by rw [hbz]; omega)).toNat : Int) == 48) = true := by rw [hg, h48]; rfl
      have hb0 := h0s h48 h0
      have hnum : numB b = true := by rw [HNB.out, hall, h48, decide_eq_false (show ¬ b ≠ [48] from fun h => h h0)]; rfl
      clear h0
      have HN : Hid (entX s = some ⟨c, numV b, a⟩) := Lib.hid (by rw [HX2.out, if_pos hnum])
      have hca := Lib.hid (atoi_any b w2 hnum)
      clear HX2 HNB h0s h0n hg hall HE h48 hnum
      go_wp2_with fail
      refine hca.out.mono ?_
      rintro e w3 ⟨rfl, hb3⟩
      have HB3 := Lib.hid (below_tr3 HB.out hb3 HB.out.size)
      have HK3 := Lib.hid (HK.out.same (same_below hb3) HK.out.lt)
      have hrl : w.heap.size + 1 < w2.heap.size := World.block_lt_of_cell? w2 _ q0
      have p0 := (hb3.cell (p := ⟨w.heap.size + 1, 0, none⟩) hrl).trans q0
      have p2 := (hb3.cell (p := ⟨w.heap.size + 1, 2, none⟩) hrl).trans q2
      clear hca hb3 HB HK k0 k1 k2 z0 z1 z2 q0 q1 q2 hrl hem hb48
      have k0 : w3.cell? ⟨w.heap.size, 0, none⟩ = some (.string ⟨#[]⟩) := HK3.out.cell 0
      have k1 : w3.cell? ⟨w.heap.size, 1, none⟩ = some (.int .i64 0) := HK3.out.cell 1
      have k2 : w3.cell? ⟨w.heap.size, 2, none⟩ = some (.string ⟨#[]⟩) := HK3.out.cell 2
      have z0 : w3.frozen? ⟨w.heap.size, 0, none⟩ = false := HK3.out.frozen 0
      have z1 : w3.frozen? ⟨w.heap.size, 1, none⟩ = false := HK3.out.frozen 1
      have z2 : w3.frozen? ⟨w.heap.size, 2, none⟩ = false := HK3.out.frozen 2
      generalize numV b = nv at *
      have hbk := ((HK3.out.set_ 0 (.string (bstr c))).set_ 1 (.int .i64 nv)).set_ 2 (.string (bstr a))
      have HBK := Lib.hid hbk
      have HBB := Lib.hid (((HB3.out.drew.setCell (p := ⟨w.heap.size, 0, none⟩) (Nat.le_refl _) (.string (bstr c))).setCell (p := ⟨w.heap.size, 1, none⟩) (Nat.le_refl _) (.int .i64 nv)).setCell (p := ⟨w.heap.size, 2, none⟩) (Nat.le_refl _) (.string (bstr a)))
      clear hbk HK3 HB3
      go_wp2_with fail
      go_region
      all_goals
        go_wp2_with fail
        refine bodyPost_ret (results_row2 rfl _ _ w.heap.size 36 [.string (bstr c), .int .i64 nv, .string (bstr a)] _ rfl HBK.out Tryz.underlying36 rfl ent_info3) rfl ?_
        exact ⟨⟨c, nv, a⟩, true, rfl, HBB.out, fun _ => HN.out, fun h => (by cases h)⟩
    · have HN : Hid (entX s = none) := Lib.hid (by rw [HX2.out, if_neg (by rw [HNB.out, decide_eq_true h48, decide_eq_true h0]; simp)])
      have hb48 : ((((bstr b)[0]'(by rw [hbz]; omega)).toNat : Int) == 48) = true := by rw [hg, h48]; rfl
      have hb0 := h0n h0
      clear HX2 HNB h0s h0n hg hall HE h48 h0
      have hbk := ((HK.out.set_ 0 (.string ⟨#[]⟩)).set_ 1 (.int .i64 0)).set_ 2 (.string ⟨#[]⟩)
      have HBK := Lib.hid hbk
      have HBB := Lib.hid (((HB.out.setCell (p := ⟨w.heap.size, 0, none⟩) (Nat.le_refl _) (.string ⟨#[]⟩)).setCell (p := ⟨w.heap.size, 1, none⟩) (Nat.le_refl _) (.int .i64 0)).setCell (p := ⟨w.heap.size, 2, none⟩) (Nat.le_refl _) (.string ⟨#[]⟩))
      clear hbk HK HB
      go_wp2_with fail
      refine bodyPost_ret (results_row2 rfl _ _ w.heap.size 36 [.string ⟨#[]⟩, .int .i64 0, .string ⟨#[]⟩] _ rfl HBK.out Tryz.underlying36 rfl ent_info3) rfl ?_
      exact ⟨⟨[], 0, []⟩, false, rfl, HBB.out, fun h => (by cases h), fun _ => HN.out⟩
  · have hb48 : ((((bstr b)[0]'(by rw [hbz]; omega)).toNat : Int) == 48) = false := by
      rw [hg, beq_eq_false_iff_ne]
      intro h
      apply h48
      apply UInt8.toNat_inj.1
      show c0.toNat = 48
      omega
    have hnum : numB b = true := by rw [HNB.out, hall, decide_eq_false h48]; rfl
    have HN : Hid (entX s = some ⟨c, numV b, a⟩) := Lib.hid (by rw [HX2.out, if_pos hnum])
    have hca := Lib.hid (atoi_any b w2 hnum)
    clear HX2 HNB h0s h0n hg hall HE h48 hnum
    go_wp2_with fail
    refine hca.out.mono ?_
    rintro e w3 ⟨rfl, hb3⟩
    have HB3 := Lib.hid (below_tr3 HB.out hb3 HB.out.size)
    have HK3 := Lib.hid (HK.out.same (same_below hb3) HK.out.lt)
    have hrl : w.heap.size + 1 < w2.heap.size := World.block_lt_of_cell? w2 _ q0
    have p0 := (hb3.cell (p := ⟨w.heap.size + 1, 0, none⟩) hrl).trans q0
    have p2 := (hb3.cell (p := ⟨w.heap.size + 1, 2, none⟩) hrl).trans q2
    clear hca hb3 HB HK k0 k1 k2 z0 z1 z2 q0 q1 q2 hrl hem hb48
    have k0 : w3.cell? ⟨w.heap.size, 0, none⟩ = some (.string ⟨#[]⟩) := HK3.out.cell 0
    have k1 : w3.cell? ⟨w.heap.size, 1, none⟩ = some (.int .i64 0) := HK3.out.cell 1
    have k2 : w3.cell? ⟨w.heap.size, 2, none⟩ = some (.string ⟨#[]⟩) := HK3.out.cell 2
    have z0 : w3.frozen? ⟨w.heap.size, 0, none⟩ = false := HK3.out.frozen 0
    have z1 : w3.frozen? ⟨w.heap.size, 1, none⟩ = false := HK3.out.frozen 1
    have z2 : w3.frozen? ⟨w.heap.size, 2, none⟩ = false := HK3.out.frozen 2
    generalize numV b = nv at *
    have hbk := ((HK3.out.set_ 0 (.string (bstr c))).set_ 1 (.int .i64 nv)).set_ 2 (.string (bstr a))
    have HBK := Lib.hid hbk
    have HBB := Lib.hid (((HB3.out.drew.setCell (p := ⟨w.heap.size, 0, none⟩) (Nat.le_refl _) (.string (bstr c))).setCell (p := ⟨w.heap.size, 1, none⟩) (Nat.le_refl _) (.int .i64 nv)).setCell (p := ⟨w.heap.size, 2, none⟩) (Nat.le_refl _) (.string (bstr a)))
    clear hbk HK3 HB3
    go_wp2_with fail
    go_region
    all_goals
      go_wp2_with fail
      refine bodyPost_ret (results_row2 rfl _ _ w.heap.size 36 [.string (bstr c), .int .i64 nv, .string (bstr a)] _ rfl HBK.out Tryz.underlying36 rfl ent_info3) rfl ?_
      exact ⟨⟨c, nv, a⟩, true, rfl, HBB.out, fun _ => HN.out, fun h => (by cases h)⟩
end Go.Proofs.YtgfacedfndcgdaaGreatDoor
