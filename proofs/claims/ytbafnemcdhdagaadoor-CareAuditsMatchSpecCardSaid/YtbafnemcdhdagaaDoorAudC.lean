/-
  Audits: how they read; their classes; the closures of 'Audits'.
-/
import Derived.Test.YtbafnemcdhdagaaDoorProg
import Derived.Test.YtbafnemcdhdagaaDoorRows11
import Derived.Test.YtbafnemcdhdagaaDoorHeld
import Derived.Test.YtbafnemcdhdagaaDoorInsAud
import Derived.Shelf.SlSortCmp.KitK
namespace Go.Proofs.YtbafnemcdhdagaaDoor
open Go.RowKit Go.Sort
set_option linter.unusedVariables false
set_option linter.unusedSimpArgs false

structure Aud where
  item : List UInt8
  last : Int
  urg : Bool
deriving Inhabited
def audCells (x : Aud) : List Value := [.string (bstr x.item), .int .i64 x.last, .bool x.urg]
def audRp : Rp Aud := (Rp.pair Rp.str (Rp.pair (Rp.int .i64) Rp.bool)).via fun r => (bstr r.item, r.last, r.urg)
theorem aud_open {w : World} {S : Nat → Prop} {us : List Value} {c : Aud} (h : audRp.ok w S us c) : us = audCells c ∧ c.item.length ≤ maxLen ∧ (Lit.int .i64 c.last).wf = true := by
  obtain ⟨_, _, rfl, ⟨rfl, h1⟩, ⟨_, _, rfl, ⟨rfl, h2⟩, h3⟩⟩ := h
  cases h3
  exact ⟨rfl, h1, h2⟩
theorem aud_mk {w : World} {S : Nat → Prop} {c : Aud} (h1 : c.item.length ≤ maxLen) (h2 : (Lit.int .i64 c.last).wf = true) : audRp.ok w S (audCells c) c :=
  ⟨[_], [_, _], rfl, ⟨rfl, h1⟩, ⟨[_], [_], rfl, ⟨rfl, h2⟩, rfl⟩⟩
theorem aud_at {w : World} {S : Nat → Prop} {v : Value} {l : List Aud} (h : (Rp.sl audRp).ok w S [v] l) {k : Nat} (hk : k < l.length) :
    ∃ ad c, v = .slice (some ad) l.length c ∧ S ad.block ∧ w.cell? (ad.add (k * 3)) = some (.string (bstr l[k].item)) ∧ w.cell? ⟨(ad.add (k * 3)).block, (ad.add (k * 3)).off + 1, none⟩ = some (.int .i64 l[k].last) ∧
      w.cell? ⟨(ad.add (k * 3)).block, (ad.add (k * 3)).off + 2, none⟩ = some (.bool l[k].urg) ∧ l[k].item.length ≤ 9223372036854775807 ∧ (Lit.int .i64 l[k].last).wf = true := by
  obtain ⟨A, c, rfl, _⟩ := Rp.sl_open h
  obtain ⟨ad, us, rfl, _, hb, hu, hcell⟩ := Rp.sl_at h hk
  obtain ⟨rfl, hz1, hz2⟩ := aud_open hu
  have c0 := hcell 0 _ rfl
  have c1 := hcell 1 _ rfl
  have c2 := hcell 2 _ rfl
  rw [add_fld _ _ _ (by omega)] at c1 c2
  unfold maxLen at hz1
  exact ⟨ad, c, rfl, hb, c0, c1, c2, by omega, hz2⟩
theorem auds_read {w : World} {B : Nat} {v : Value} {l : List Aud} {n : Nat} (h : w.ownsRow B 103 3 v n (l.flatMap audCells)) (hl : ∀ s ∈ l, s.item.length ≤ maxLen ∧ (Lit.int .i64 s.last).wf = true) : (Rp.sl audRp).ok w (· < w.heap.size) [v] l :=
  Rp.of_ownN (R := audRp) (by decide) (fun _ => rfl) h (fun g hg => (h.lt g hg).2) (fun s hs => aud_mk (hl s hs).1 (hl s hs).2)
/-- The class of an audit: 3 where it is not due. -/
def clsA (x : Aud) (ev dy : Int) : Int := if x.urg = true then 0 else if x.last < 0 then 1 else if x.last ≤ dy - ev then 2 else 3
theorem clsA_le (x : Aud) (ev dy : Int) : 0 ≤ clsA x ev dy ∧ clsA x ev dy ≤ 3 := by unfold clsA; repeat' split; all_goals omega
set_option maxRecDepth 100000 in
set_option maxHeartbeats 1000000 in
theorem class_any (x : Aud) (ev dy : Int) (w : World) (h1 : 1 ≤ ev) (h2 : ev ≤ 3000000) (h3 : 0 ≤ dy) (h4 : dy ≤ 3000000) :
    Calls Tryd.prog 59 #[.agg (audCells x).toArray, .int .i64 ev, .int .i64 dy] w fun e w' => e = .returned (.int .i64 (clsA x ev dy)) ∧ w' = w.alloc (.cells (audCells x).toArray 103) := by
  have HF : Hid (clsA x ev dy = if x.urg = true then 0 else if x.last < 0 then 1 else if x.last ≤ dy - ev then 2 else 3) := Lib.hid rfl
  unfold audCells
  obtain ⟨it, la, ur⟩ := x
  dsimp only at HF ⊢
  cases ur with
  | true =>
    go_enter Tryd.func59, Tryd.ntmps59
    go_wp2_with fail
    go_ret
    exact ⟨by rw [HF.out]; rfl, rfl⟩
  | false =>
    by_cases c1 : la < 0
    · have HC := Lib.hid c1
      go_enter Tryd.func59, Tryd.ntmps59
      go_wp2_with fail
      go_ret
      exact ⟨by rw [HF.out, if_neg (by decide), if_pos (by have := HC.out; omega)]; rfl, rfl⟩
    · by_cases c2 : la ≤ dy - ev
      · have HC := Lib.hid (And.intro c1 c2)
        go_enter Tryd.func59, Tryd.ntmps59
        go_wp2_with fail
        go_ret
        exact ⟨by rw [HF.out, if_neg (by decide), if_neg (by have := HC.out.1; omega), if_pos (by have := HC.out.2; omega)]; rfl, rfl⟩
      · have HC := Lib.hid (And.intro c1 c2)
        go_enter Tryd.func59, Tryd.ntmps59
        go_wp2_with fail
        go_ret
        exact ⟨by rw [HF.out, if_neg (by decide), if_neg (by have := HC.out.1; omega), if_neg (by have := HC.out.2; omega)]; rfl, rfl⟩
def rankA (x : Aud) (ev dy : Int) : Int := if clsA x ev dy = 3 then 0 else clsA x ev dy + 1
theorem rankA_is (x : Aud) (ev dy : Int) : rankA x ev dy = if x.urg = true then 1 else if x.last < 0 then 2 else if x.last ≤ dy - ev then 3 else 0 := by
  unfold rankA clsA
  repeat' split
  all_goals first | rfl | omega
set_option maxRecDepth 100000 in
set_option maxHeartbeats 1000000 in
theorem rank_any (x : Aud) (ev dy : Int) (w : World) (h1 : 1 ≤ ev) (h2 : ev ≤ 3000000) (h3 : 0 ≤ dy) (h4 : dy ≤ 3000000) (h5 : x.last ≤ 3000000) :
    Calls Tryd.prog 64 #[.agg (audCells x).toArray, .int .i64 ev, .int .i64 dy] w fun e w' => e = .returned (.int .i64 (rankA x ev dy)) ∧ w' = w.alloc (.cells (audCells x).toArray 103) := by
  have HF := Lib.hid (rankA_is x ev dy)
  unfold audCells
  obtain ⟨it, la, ur⟩ := x
  dsimp only at HF h5 ⊢
  cases ur with
  | true =>
    go_enter Tryd.func64, Tryd.ntmps64
    go_wp2_with fail
    go_ret
    exact ⟨by rw [HF.out]; rfl, rfl⟩
  | false =>
    by_cases c1 : la < 0
    · have HC := Lib.hid c1
      go_enter Tryd.func64, Tryd.ntmps64
      go_wp2_with fail
      go_ret
      exact ⟨by rw [HF.out, if_neg (by decide), if_pos (by have := HC.out; omega)]; rfl, rfl⟩
    · have c1' : 0 ≤ la := by omega
      by_cases c2 : la ≤ dy - ev
      · have HC := Lib.hid (And.intro c1 c2)
        have c3 : ev ≤ dy - la := by omega
        have c4 : decide (dy - la ≥ ev) = true := decide_eq_true c3
        go_enter Tryd.func64, Tryd.ntmps64
        go_wp2_with fail
        go_ret
        exact ⟨by rw [HF.out, if_neg (by decide), if_neg (by have := HC.out.1; omega), if_pos (by have := HC.out.2; omega)]; rfl, rfl⟩
      · have HC := Lib.hid (And.intro c1 c2)
        have c3 : ¬ ev ≤ dy - la := by omega
        have c4 : decide (dy - la ≥ ev) = false := decide_eq_false c3
        go_enter Tryd.func64, Tryd.ntmps64
        go_wp2_with fail
        go_ret
        exact ⟨by rw [HF.out, if_neg (by decide), if_neg (by have := HC.out.1; omega), if_neg (by have := HC.out.2; omega)]; rfl, rfl⟩
/-- cmp.Compare of two numbers. -/
def icmp (x y : Int) : Int := if x < y then -1 else if y < x then 1 else 0
theorem nan_any (x : Int) (w : World) : Calls Tryd.prog 99 #[.int .i64 x] w fun e w' => e = .returned (.bool false) ∧ w' = w := by
  go_enter Tryd.func99, Tryd.ntmps99
  go_wp2_with fail
  go_ret
  exact ⟨rfl, rfl⟩
set_option maxRecDepth 100000 in
set_option maxHeartbeats 1000000 in
theorem icmp_any (x y : Int) (w : World) : Calls Tryd.prog 63 #[.int .i64 x, .int .i64 y] w fun e w' => e = .returned (.int .i64 (icmp x y)) ∧ w' = w := by
  have HF : Hid (icmp x y = if x < y then -1 else if y < x then 1 else 0) := Lib.hid rfl
  rcases Int.lt_trichotomy x y with h | h | h
  · have HC := Lib.hid h
    go_enter Tryd.func63, Tryd.ntmps63
    go_wp2_with (go_at_call 99; refine (nan_any _ _).mono ?_; rintro e w1 ⟨rfl, rfl⟩)
    go_ret
    exact ⟨by rw [HF.out, if_pos (by have := HC.out; omega)]; rfl, rfl⟩
  · subst h
    go_enter Tryd.func63, Tryd.ntmps63
    go_wp2_with (go_at_call 99; refine (nan_any _ _).mono ?_; rintro e w1 ⟨rfl, rfl⟩)
    go_ret
    exact ⟨by rw [HF.out, if_neg (by omega), if_neg (by omega)]; rfl, rfl⟩
  · have h2 : ¬ x < y := by omega
    have HC := Lib.hid (And.intro h h2)
    go_enter Tryd.func63, Tryd.ntmps63
    go_wp2_with (go_at_call 99; refine (nan_any _ _).mono ?_; rintro e w1 ⟨rfl, rfl⟩)
    go_ret
    exact ⟨by rw [HF.out, if_neg (by have := HC.out.2; omega), if_pos (by have := HC.out.1; omega)]; rfl, rfl⟩
/-- 'func(x api.Audit) bool { return class(x, every, day) == 3 }'. -/
def delA (x : Aud) (ev dy : Int) : Bool := decide (clsA x ev dy = 3)
set_option maxRecDepth 100000 in
set_option maxHeartbeats 1000000 in
theorem delA_any (x : Aud) (ev dy : Int) (be bd : Nat) (w : World) (h1 : 1 ≤ ev) (h2 : ev ≤ 3000000) (h3 : 0 ≤ dy) (h4 : dy ≤ 3000000) (he : w.cell? ⟨be, 0, none⟩ = some (.int .i64 ev)) (hd : w.cell? ⟨bd, 0, none⟩ = some (.int .i64 dy)) :
    Calls Tryd.prog 58 #[.agg (audCells x).toArray, .pointer (some ⟨be, 0, none⟩), .pointer (some ⟨bd, 0, none⟩)] w fun e w' => e = .returned (.bool (delA x ev dy)) ∧ ∃ q os', w' = grow (w.drewN q) os' := by
  have hbe := World.block_lt_of_cell? w _ he
  have hbd := World.block_lt_of_cell? w _ hd
  have HF : Hid (delA x ev dy = decide (clsA x ev dy = 3)) := Lib.hid rfl
  have hcl := Lib.hid (fun W => class_any x ev dy W h1 h2 h3 h4)
  have he' := (World.cell?_alloc_lt w (.cells (audCells x).toArray 103) ⟨be, 0, none⟩ hbe).trans he
  have hd' := (World.cell?_alloc_lt w (.cells (audCells x).toArray 103) ⟨bd, 0, none⟩ hbd).trans hd
  unfold audCells at hcl he' hd' ⊢
  generalize clsA x ev dy = c at *
  by_cases hc : c = 3
  · subst hc
    go_enter Tryd.func58, Tryd.ntmps58
    go_wp2_with (go_at_call 59; refine (hcl.out _).mono ?_; rintro e w1 ⟨rfl, rfl⟩)
    go_ret
    exact ⟨by rw [HF.out]; rfl, 0, _, by rw [alloc_eq_grow, alloc_eq_grow, grow_grow]; rfl⟩
  · have hc' : (c == 3) = false := by rw [beq_eq_false_iff_ne]; exact hc
    have HC := Lib.hid hc
    clear hc
    go_enter Tryd.func58, Tryd.ntmps58
    go_wp2_with (go_at_call 59; refine (hcl.out _).mono ?_; rintro e w1 ⟨rfl, rfl⟩)
    go_ret
    exact ⟨by rw [HF.out, decide_eq_false HC.out]; rfl, 0, _, by rw [alloc_eq_grow, alloc_eq_grow, grow_grow]; rfl⟩
def Gr (w w' : World) : Prop := ∃ q os', w' = grow (w.drewN q) os'
theorem Gr.refl (w : World) : Gr w w := ⟨0, #[], by rw [grow_empty]; rfl⟩
theorem Gr.drew {w w' : World} (h : Gr w w') : Gr w w'.drew := by obtain ⟨q, os, rfl⟩ := h; exact ⟨q + 1, os, by rw [drew_grow]; rfl⟩
theorem Gr.alloc {w w' : World} (h : Gr w w') (o : Obj) : Gr w (w'.alloc o) := by obtain ⟨q, os, rfl⟩ := h; exact ⟨q, os ++ #[o], by rw [alloc_eq_grow, grow_grow]⟩
theorem Gr.trans {a b c : World} (h : Gr a b) (k : Gr b c) : Gr a c := by
  obtain ⟨q, os, rfl⟩ := h
  obtain ⟨q2, os2, rfl⟩ := k
  exact ⟨q + q2, os ++ os2, by rw [show (grow (a.drewN q) os).drewN q2 = grow ((a.drewN q).drewN q2) os from rfl, grow_grow, World.drewN_drewN]⟩
theorem Gr.below {w w' : World} (h : Gr w w') : Below w.heap.size w w' := by
  obtain ⟨q, os, rfl⟩ := h
  exact ⟨rfl, rfl, rfl, by rw [size_grow]; exact Nat.le_add_right _ _, fun k hk => heap_grow_old (w.drewN q) os hk⟩
/-- 'cmp.Or(class(a, every, day)-class(b, every, day), cmp.Compare(a.Last, b.Last))'. -/
def cmpA (a b : Aud) (ev dy : Int) : Int := or2 (clsA a ev dy - clsA b ev dy) (icmp a.last b.last)
set_option maxRecDepth 100000 in
set_option maxHeartbeats 4000000 in
theorem cmpA_any (a b : Aud) (ev dy : Int) (be bd : Nat) (w : World) (h1 : 1 ≤ ev) (h2 : ev ≤ 3000000) (h3 : 0 ≤ dy) (h4 : dy ≤ 3000000) (he : w.cell? ⟨be, 0, none⟩ = some (.int .i64 ev)) (hd : w.cell? ⟨bd, 0, none⟩ = some (.int .i64 dy)) :
    Calls Tryd.prog 61 #[.agg (audCells a).toArray, .agg (audCells b).toArray, .pointer (some ⟨be, 0, none⟩), .pointer (some ⟨bd, 0, none⟩)] w fun e w' => e = .returned (.int .i64 (cmpA a b ev dy)) ∧ ∃ q os', w' = grow (w.drewN q) os' := by
  have hbe := World.block_lt_of_cell? w _ he
  have hbd := World.block_lt_of_cell? w _ hd
  obtain ⟨hca1, hca2⟩ := clsA_le a ev dy
  obtain ⟨hcb1, hcb2⟩ := clsA_le b ev dy
  have HF : Hid (cmpA a b ev dy = or2 (clsA a ev dy - clsA b ev dy) (icmp a.last b.last)) := Lib.hid rfl
  have HCA := Lib.hid (fun W => class_any a ev dy W h1 h2 h3 h4)
  have HCB := Lib.hid (fun W => class_any b ev dy W h1 h2 h3 h4)
  have HCC := Lib.hid (fun W => icmp_any a.last b.last W)
  unfold audCells at HCA HCB ⊢
  generalize clsA a ev dy = ca at *
  generalize clsA b ev dy = cb at *
  generalize icmp a.last b.last = cc at *
  have hwr : IntKind.i64.wrap (ca - cb) = ca - cb := IntWalk.i64_in _ (by omega)
  go_enter Tryd.func61, Tryd.ntmps61
  go_wp2_with fail
  obtain ⟨w2, hw2⟩ : ∃ w2, w2 = (w.alloc (.cells #[.string (bstr a.item), .int .i64 a.last, .bool a.urg] 103)).alloc (.cells #[.string (bstr b.item), .int .i64 b.last, .bool b.urg] 103) := ⟨_, rfl⟩
  have HG2 : Hid (Gr w w2) := Lib.hid (by rw [hw2]; exact ((Gr.refl w).alloc _).alloc _)
  have hka : Blk w2 w.heap.size 103 [.string (bstr a.item), .int .i64 a.last, .bool a.urg] := by rw [hw2]; exact Blk.same (Blk.new w 103 [.string (bstr a.item), .int .i64 a.last, .bool a.urg]) (same_below ((Below.refl _ _).alloc (Nat.le_refl _) _)) (by simp)
  have hkb : Blk w2 (w.heap.size + 1) 103 [.string (bstr b.item), .int .i64 b.last, .bool b.urg] := by
    rw [hw2]
    have := Blk.new (w.alloc (.cells #[.string (bstr a.item), .int .i64 a.last, .bool a.urg] 103)) 103 [.string (bstr b.item), .int .i64 b.last, .bool b.urg]
    rw [World.size_alloc] at this
    exact this
  have HKA := Lib.hid hka
  have HKB := Lib.hid hkb
  have HE := Lib.hid ((HG2.out.below.cell (p := ⟨be, 0, none⟩) hbe).trans he)
  have HD := Lib.hid ((HG2.out.below.cell (p := ⟨bd, 0, none⟩) hbd).trans hd)
  have hbe2 : be < w2.heap.size := Nat.lt_of_lt_of_le hbe HG2.out.below.size
  have hbd2 : bd < w2.heap.size := Nat.lt_of_lt_of_le hbd HG2.out.below.size
  have hla := hka.lt
  have hlb := hkb.lt
  rw [← hw2]
  clear hw2 he hd hka hkb
  have KEEP : Hid (∀ w', Gr w2 w' → (w'.cell? ⟨w.heap.size, 0, none⟩ = some (.string (bstr a.item)) ∧ w'.cell? ⟨w.heap.size, 1, none⟩ = some (.int .i64 a.last) ∧ w'.cell? ⟨w.heap.size, 2, none⟩ = some (.bool a.urg) ∧ w'.cell? ⟨w.heap.size + 1, 0, none⟩ = some (.string (bstr b.item)) ∧ w'.cell? ⟨w.heap.size + 1, 1, none⟩ = some (.int .i64 b.last) ∧ w'.cell? ⟨w.heap.size + 1, 2, none⟩ = some (.bool b.urg) ∧ w'.cell? ⟨be, 0, none⟩ = some (.int .i64 ev) ∧ w'.cell? ⟨bd, 0, none⟩ = some (.int .i64 dy))) := Lib.hid (fun w' hg => ⟨(HKA.out.same (same_below hg.below) hla).cell 0, (HKA.out.same (same_below hg.below) hla).cell 1, (HKA.out.same (same_below hg.below) hla).cell 2, (HKB.out.same (same_below hg.below) hlb).cell 0, (HKB.out.same (same_below hg.below) hlb).cell 1, (HKB.out.same (same_below hg.below) hlb).cell 2, (hg.below.cell (p := ⟨be, 0, none⟩) hbe2).trans HE.out, (hg.below.cell (p := ⟨bd, 0, none⟩) hbd2).trans HD.out⟩)
  refine wp_region_held_drew (S := fun w' => w'.cell? ⟨w.heap.size, 0, none⟩ = some (.string (bstr a.item)) ∧ w'.cell? ⟨w.heap.size, 1, none⟩ = some (.int .i64 a.last) ∧ w'.cell? ⟨w.heap.size, 2, none⟩ = some (.bool a.urg) ∧ w'.cell? ⟨w.heap.size + 1, 0, none⟩ = some (.string (bstr b.item)) ∧ w'.cell? ⟨w.heap.size + 1, 1, none⟩ = some (.int .i64 b.last) ∧ w'.cell? ⟨w.heap.size + 1, 2, none⟩ = some (.bool b.urg) ∧ w'.cell? ⟨be, 0, none⟩ = some (.int .i64 ev) ∧ w'.cell? ⟨bd, 0, none⟩ = some (.int .i64 dy)) (by kernel_rfl) (KEEP.out w2 (Gr.refl w2)) (fun hHeld => ?_)
  obtain ⟨w3, hw3⟩ : ∃ w3, w3 = w2.drew := ⟨_, rfl⟩
  have HG3 : Hid (Gr w2 w3) := Lib.hid (by rw [hw3]; exact (Gr.refl w2).drew)
  rw [← hw3] at hHeld ⊢
  clear hw3
  refine wpAnyH_take (i := 0) (v := ?_) rfl (by kernel_rfl) (by kernel_rfl) (by kernel_rfl) (fun _ _ _ h => h) (Or.inl ⟨by rfl, ?_⟩) (by assumption) ?_
  rotate_left
  · (intro w hSw; (try dsimp only at hSw); go_simp; try with_reducible rfl)
  try simp only [List.getElem_toArray, List.getElem_cons_succ, List.getElem_cons_zero, Act.put, List.setIfInBounds_toArray, List.set_cons_zero, List.set_cons_succ]
  refine wpAnyH_take (i := 1) (v := ?_) rfl (by kernel_rfl) (by kernel_rfl) (by kernel_rfl) (fun _ _ _ h => h) (Or.inl ⟨by rfl, ?_⟩) (by assumption) ?_
  rotate_left
  · (intro w hSw; (try dsimp only at hSw); go_simp; try with_reducible rfl)
  try simp only [List.getElem_toArray, List.getElem_cons_succ, List.getElem_cons_zero, Act.put, List.setIfInBounds_toArray, List.set_cons_zero, List.set_cons_succ]
  refine wpAnyH_take (i := 2) (v := ?_) rfl (by kernel_rfl) (by kernel_rfl) (by kernel_rfl) (fun _ _ _ h => h) (Or.inl ⟨by rfl, ?_⟩) (by assumption) ?_
  rotate_left
  · (intro w hSw; (try dsimp only at hSw); go_simp; try with_reducible rfl)
  try simp only [List.getElem_toArray, List.getElem_cons_succ, List.getElem_cons_zero, Act.put, List.setIfInBounds_toArray, List.set_cons_zero, List.set_cons_succ]
  refine wpAnyH_take (i := 4) (v := ?_) rfl (by kernel_rfl) (by kernel_rfl) (by kernel_rfl) (fun _ _ _ h => h) (Or.inl ⟨by rfl, ?_⟩) (by assumption) ?_
  rotate_left
  · (intro w hSw; (try dsimp only at hSw); go_simp; try with_reducible rfl)
  try simp only [List.getElem_toArray, List.getElem_cons_succ, List.getElem_cons_zero, Act.put, List.setIfInBounds_toArray, List.set_cons_zero, List.set_cons_succ]
  refine wpAnyH_take (i := 5) (v := ?_) rfl (by kernel_rfl) (by kernel_rfl) (by kernel_rfl) (fun _ _ _ h => h) (Or.inl ⟨by rfl, ?_⟩) (by assumption) ?_
  rotate_left
  · (intro w hSw; (try dsimp only at hSw); go_simp; try with_reducible rfl)
  try simp only [List.getElem_toArray, List.getElem_cons_succ, List.getElem_cons_zero, Act.put, List.setIfInBounds_toArray, List.set_cons_zero, List.set_cons_succ]
  refine wpAnyH_take (i := 6) (v := ?_) rfl (by kernel_rfl) (by kernel_rfl) (by kernel_rfl) (fun _ _ _ h => h) (Or.inl ⟨by rfl, ?_⟩) (by assumption) ?_
  rotate_left
  · (intro w hSw; (try dsimp only at hSw); go_simp; try with_reducible rfl)
  try simp only [List.getElem_toArray, List.getElem_cons_succ, List.getElem_cons_zero, Act.put, List.setIfInBounds_toArray, List.set_cons_zero, List.set_cons_succ]
  refine wpAnyH_take (i := 9) (v := ?_) rfl (by kernel_rfl) (by kernel_rfl) (by kernel_rfl) (fun _ _ _ h => h) (Or.inl ⟨by rfl, ?_⟩) (by assumption) ?_
  rotate_left
  · (intro w hSw; (try dsimp only at hSw); go_simp; try with_reducible rfl)
  try simp only [List.getElem_toArray, List.getElem_cons_succ, List.getElem_cons_zero, Act.put, List.setIfInBounds_toArray, List.set_cons_zero, List.set_cons_succ]
  refine wpAnyH_take (i := 10) (v := ?_) rfl (by kernel_rfl) (by kernel_rfl) (by kernel_rfl) (fun _ _ _ h => h) (Or.inl ⟨by rfl, ?_⟩) (by assumption) ?_
  rotate_left
  · (intro w hSw; (try dsimp only at hSw); go_simp; try with_reducible rfl)
  try simp only [List.getElem_toArray, List.getElem_cons_succ, List.getElem_cons_zero, Act.put, List.setIfInBounds_toArray, List.set_cons_zero, List.set_cons_succ]
  refine wpAnyH_take (i := 11) (v := ?_) rfl (by kernel_rfl) (by kernel_rfl) (by kernel_rfl) (fun _ _ _ h => h) (Or.inl ⟨by rfl, ?_⟩) (by assumption) ?_
  rotate_left
  · (intro w hSw; (try dsimp only at hSw); go_simp; try with_reducible rfl)
  try simp only [List.getElem_toArray, List.getElem_cons_succ, List.getElem_cons_zero, Act.put, List.setIfInBounds_toArray, List.set_cons_zero, List.set_cons_succ]
  refine wpAnyH_take (i := 12) (v := ?_) rfl (by kernel_rfl) (by kernel_rfl) (by kernel_rfl) (fun _ _ _ h => h) (Or.inl ⟨by rfl, ?_⟩) (by assumption) ?_
  rotate_left
  · (intro w hSw; (try dsimp only at hSw); go_simp; try with_reducible rfl)
  try simp only [List.getElem_toArray, List.getElem_cons_succ, List.getElem_cons_zero, Act.put, List.setIfInBounds_toArray, List.set_cons_zero, List.set_cons_succ]
  refine wpAnyH_ready (rs := [3]) (by kernel_rfl) (by simp) ?_
  refine AllReadyH.cons rfl (fun K hK => ?_) AllReadyH.nil
  rw [if_pos (by rfl)]
  simp only [List.getElem_toArray, List.getElem_cons_succ, List.getElem_cons_zero]
  go_simp
  go_at_call 59
  refine (HCA.out _).mono ?_
  rintro e w4 ⟨rfl, hw⟩
  have HG4 : Hid (Gr w2 w4) := Lib.hid (by rw [hw]; exact HG3.out.alloc _)
  clear hw
  show K _ w4
  refine hK.out _ _ (KEEP.out _ HG4.out) (fun hHeld => ?_)
  clear hK K
  try simp only [List.getElem_toArray, List.getElem_cons_succ, List.getElem_cons_zero, Act.put, List.setIfInBounds_toArray, List.set_cons_zero, List.set_cons_succ]
  refine wpAnyH_ready (rs := [7]) (by kernel_rfl) (by simp) ?_
  refine AllReadyH.cons rfl (fun K hK => ?_) AllReadyH.nil
  rw [if_pos (by rfl)]
  simp only [List.getElem_toArray, List.getElem_cons_succ, List.getElem_cons_zero]
  go_simp
  go_at_call 59
  refine (HCB.out _).mono ?_
  rintro e w5 ⟨rfl, hw⟩
  have HG5 : Hid (Gr w2 w5) := Lib.hid (by rw [hw]; exact HG4.out.alloc _)
  clear hw
  show K _ w5
  refine hK.out _ _ (KEEP.out _ HG5.out) (fun hHeld => ?_)
  clear hK K
  try simp only [List.getElem_toArray, List.getElem_cons_succ, List.getElem_cons_zero, Act.put, List.setIfInBounds_toArray, List.set_cons_zero, List.set_cons_succ]
  refine wpAnyH_take (i := 8) (v := ?_) rfl (by kernel_rfl) (by kernel_rfl) (by kernel_rfl) (fun _ _ _ h => h) (Or.inl ⟨by rfl, ?_⟩) (by assumption) ?_
  rotate_left
  · (intro w hSw; (try dsimp only at hSw); go_simp; try with_reducible rfl)
  try simp only [List.getElem_toArray, List.getElem_cons_succ, List.getElem_cons_zero, Act.put, List.setIfInBounds_toArray, List.set_cons_zero, List.set_cons_succ]
  refine wpAnyH_ready (rs := [13]) (by kernel_rfl) (by simp) ?_
  refine AllReadyH.cons rfl (fun K hK => ?_) AllReadyH.nil
  rw [if_pos (by rfl)]
  simp only [List.getElem_toArray, List.getElem_cons_succ, List.getElem_cons_zero]
  go_simp
  go_at_call 63
  refine (HCC.out _).mono ?_
  rintro e w6 ⟨rfl, hw⟩
  have HG6 : Hid (Gr w2 w6) := Lib.hid (by rw [hw]; exact HG5.out)
  clear hw
  show K _ w6
  refine hK.out _ _ (KEEP.out _ HG6.out) (fun hHeld => ?_)
  clear hK K
  try simp only [List.getElem_toArray, List.getElem_cons_succ, List.getElem_cons_zero, Act.put, List.setIfInBounds_toArray, List.set_cons_zero, List.set_cons_succ]
  refine wpAnyH_ready (rs := [14]) (by kernel_rfl) (by simp) ?_
  refine AllReadyH.cons rfl (fun K hK => ?_) AllReadyH.nil
  rw [if_pos (by rfl)]
  simp only [List.getElem_toArray, List.getElem_cons_succ, List.getElem_cons_zero]
  go_simp
  refine hK.out _ _ (KEEP.out _ (HG6.out.alloc _)) (fun hHeld => ?_)
  clear hK K
  try simp only [List.getElem_toArray, List.getElem_cons_succ, List.getElem_cons_zero, Act.put, List.setIfInBounds_toArray, List.set_cons_zero, List.set_cons_succ]
  refine wpAnyH_ready (rs := [15]) (by kernel_rfl) (by simp) ?_
  refine AllReadyH.cons rfl (fun K hK => ?_) AllReadyH.nil
  rw [if_pos (by rfl)]
  simp only [List.getElem_toArray, List.getElem_cons_succ, List.getElem_cons_zero]
  go_simp
  go_at_call 62
  refine (or2_any _ (ca - cb) cc _ (lit2_0 rfl) (lit2_1 rfl)).mono ?_
  rintro e w8 ⟨rfl, hw⟩
  have HG8 : Hid (Gr w2 w8) := Lib.hid (by rw [hw]; exact HG6.out.alloc _)
  clear hw
  show K _ w8
  refine hK.out _ _ (KEEP.out _ HG8.out) (fun hHeld => ?_)
  clear hK K
  try simp only [List.getElem_toArray, List.getElem_cons_succ, List.getElem_cons_zero, Act.put, List.setIfInBounds_toArray, List.set_cons_zero, List.set_cons_succ]
  refine wpAnyH_take (i := 16) (v := ?_) rfl (by kernel_rfl) (by kernel_rfl) (by kernel_rfl) (fun _ _ _ h => h) (Or.inl ⟨by rfl, ?_⟩) (by assumption) ?_
  rotate_left
  · (intro w hSw; (try dsimp only at hSw); go_simp; try with_reducible rfl)
  try simp only [List.getElem_toArray, List.getElem_cons_succ, List.getElem_cons_zero, Act.put, List.setIfInBounds_toArray, List.set_cons_zero, List.set_cons_succ]
  refine wpAnyH_done (by kernel_rfl) ?_ _
  clear hHeld
  go_wp2_with fail
  go_ret
  exact ⟨by rw [HF.out]; rfl, HG2.out.trans HG8.out⟩
end Go.Proofs.YtbafnemcdhdagaaDoor
