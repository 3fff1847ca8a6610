/-
  'Wrongly' and 'Hidden' of package rights and of the reference of chapter 10.
-/
import Derived.Test.YtmlhpemgpndppaaDoorMays
import Derived.Test.YtmlhpemgpndppaaDoorBelow
namespace Go.Proofs.YtmlhpemgpndppaaDoor
open Go.RowKit
set_option linter.unusedVariables false
set_option linter.unusedSimpArgs false

noncomputable def bothF (t : List Team) (l : List Rgt) (s : List Shn) : Int := if rightsFault t l ≠ 0 then rightsFault t l else shownFault s
noncomputable def shB (t : List Team) (l : List Rgt) (x : Shn) (at_ : Int) : Bool := mayB t l x.who x.house ⟨x.key, x.time⟩ at_
theorem mayS_eq {t : List Team} {l : List Rgt} (h : teamsFault t = 0) (hr : RGood t l) (x : Shn) (at_ : Int) : mayS t l x at_ = shB t l x at_ := mayT_eq h hr _ _ _
def selL (p : Nat → Bool) : Nat → List Nat
  | 0 => []
  | n + 1 => if p n = true then selL p n ++ [n] else selL p n
theorem selL_len (p : Nat → Bool) : ∀ n, (selL p n).length ≤ n
  | 0 => by simp [selL]
  | n + 1 => by
    have := selL_len p n
    rw [selL]; split
    · simp; omega
    · omega
theorem selL_lt (p : Nat → Bool) : ∀ n, ∀ k ∈ selL p n, k < n
  | 0, k, h => absurd h (by simp [selL])
  | n + 1, k, h => by
    have ih := selL_lt p n
    rw [selL] at h
    split at h
    · rcases List.mem_append.1 h with h | h
      · have := ih k h; omega
      · have := List.mem_singleton.1 h; omega
    · have := ih k h; omega
theorem selL_yes {p : Nat → Bool} {n : Nat} (h : p n = true) : ivals (selL p (n + 1)) = ivals (selL p n) ++ [.int .i64 (n : Int)] ∧ (selL p (n + 1)).length = (selL p n).length + 1 := by
  rw [selL, if_pos h]; exact ⟨ivals_app _ _, by simp⟩
theorem selL_no {p : Nat → Bool} {n : Nat} (h : p n = false) : selL p (n + 1) = selL p n := by rw [selL, if_neg (by rw [h]; decide)]
theorem ints_read {w : World} {B n : Nat} {v : Value} {ys : List Nat} (h : w.ownsRow B 3 1 v n (ivals ys)) (hl : ∀ k ∈ ys, k < 1000000) : (Rp.sl (Rp.int .i64)).ok w (· < w.heap.size) [v] (ints ys) :=
  Rp.int_own (by unfold ivals at h; exact h) (fun z hz => by
    obtain ⟨k, hk, rfl⟩ := List.mem_map.1 hz
    have := hl k hk
    exact WalkArith.wf_i64 (by omega)) (fun g hg => (h.lt g hg).2)
noncomputable def wrP (t : List Team) (l : List Rgt) (s : List Shn) (k : Nat) : Bool := !shB t l (s.getD k default) (s.getD k default).at_
noncomputable def hiP (t : List Team) (l : List Rgt) (s : List Shn) (at_ : Int) (k : Nat) : Bool := shB t l (s.getD k default) (s.getD k default).at_ && !shB t l (s.getD k default) at_
noncomputable def wrV (t : List Team) (l : List Rgt) (s : List Shn) : List Nat := if bothF t l s = 0 then selL (wrP t l s) s.length else []
noncomputable def hiF (t : List Team) (l : List Rgt) (s : List Shn) (at_ : Int) : Int := if bothF t l s ≠ 0 then bothF t l s else if withinB at_ 0 253402300799 = false ∨ (0 < s.length ∧ at_ < (s.getD (s.length - 1) default).at_) then 1 else 0
noncomputable def hiV (t : List Team) (l : List Rgt) (s : List Shn) (at_ : Int) : List Nat := if hiF t l s at_ = 0 then selL (hiP t l s at_) s.length else []
def SelPost (f : Int) (L : List Nat) (w : World) (e : Ending) (w' : World) : Prop :=
  ∃ v, e = .returned (.tuple #[v, .int .i64 f]) ∧ (Rp.sl (Rp.int .i64)).ok w' (· < w'.heap.size) [v] (ints L) ∧ Below w.heap.size w w'
theorem both_good {t : List Team} {l : List Rgt} {s : List Shn} (h : bothF t l s = 0) : teamsFault t = 0 ∧ TGood t ∧ RGood t l ∧ s.length ≤ 3000 := by
  unfold bothF at h
  split at h
  · rename_i h1; exact absurd h h1
  · rename_i h1
    obtain ⟨a, b, c⟩ := rights_good (Decidable.not_not.1 h1)
    refine ⟨a, b, c, ?_⟩
    unfold shownFault at h
    split at h
    · cases h
    · omega
set_option maxRecDepth 100000 in
set_option maxHeartbeats 1000000 in
theorem checkBoth_any (vt : Value) (t : List Team) (vl : Value) (l : List Rgt) (vs : Value) (s : List Shn) (w : World) (ht : (Rp.sl teamRp).ok w (· < w.heap.size) [vt] t) (h0 : (Rp.sl rgtRp).ok w (· < w.heap.size) [vl] l) (hs : (Rp.sl shnRp).ok w (· < w.heap.size) [vs] s) :
    Calls Tryd.prog 57 #[vt, vl, vs] w fun e w' => e = .returned (.int .i64 (bothF t l s)) ∧ Below w.heap.size w w' := by
  have HS := Lib.hid hs
  go_enter Tryd.func57, Tryd.ntmps57
  go_wp2_with fail
  refine (checkRights_any vt t vl l w ht h0).mono ?_
  rintro e w1 ⟨rfl, hb⟩
  have HB1 := Lib.hid hb
  clear hb ht h0 hs
  by_cases hf : rightsFault t l = 0
  case neg =>
    have HF : Hid (bothF t l s = rightsFault t l) := Lib.hid (if_pos hf)
    have hn : (rightsFault t l != 0) = true := by simpa using hf
    clear hf
    generalize rightsFault t l = f at *
    go_wp2_with fail
    go_ret
    exact ⟨by rw [HF.out]; rfl, HB1.out⟩
  have HF : Hid (bothF t l s = shownFault s) := Lib.hid (if_neg (by rw [hf]; decide))
  rw [hf]
  clear hf
  go_wp2_with fail
  refine (checkShown_any vs s w1 (Rp.ext _ HS.out HB1.out)).mono ?_
  rintro e w2 ⟨rfl, hb⟩
  have HB2 := Lib.hid (HB1.out.trans (hb.mono HB1.out.size))
  clear hb
  generalize shownFault s = f at *
  go_wp2_with fail
  go_ret
  exact ⟨by rw [HF.out]; rfl, HB2.out⟩
set_option maxRecDepth 100000 in
set_option maxHeartbeats 1000000 in
theorem askShown_any (vt : Value) (t : List Team) (vl : Value) (l : List Rgt) (vs : Value) (s : List Shn) (w : World) (ht : (Rp.sl teamRp).ok w (· < w.heap.size) [vt] t) (h0 : (Rp.sl rgtRp).ok w (· < w.heap.size) [vl] l) (hs : (Rp.sl shnRp).ok w (· < w.heap.size) [vs] s) :
    Calls Tryd.prog 59 #[vt, vl, vs] w fun e w' => e = .returned (.int .i64 (bothF t l s)) ∧ Below w.heap.size w w' := by
  have HS := Lib.hid hs
  go_enter Tryd.func59, Tryd.ntmps59
  go_wp2_with fail
  refine (hCheckRights_any vt t vl l w ht h0).mono ?_
  rintro e w1 ⟨rfl, hb⟩
  have HB1 := Lib.hid hb
  clear hb ht h0 hs
  by_cases hf : rightsFault t l = 0
  case neg =>
    have HF : Hid (bothF t l s = rightsFault t l) := Lib.hid (if_pos hf)
    have hn : (rightsFault t l != 0) = true := by simpa using hf
    clear hf
    generalize rightsFault t l = f at *
    go_wp2_with fail
    go_ret
    exact ⟨by rw [HF.out]; rfl, HB1.out⟩
  have HF : Hid (bothF t l s = shownFault s) := Lib.hid (if_neg (by rw [hf]; decide))
  rw [hf]
  clear hf
  go_wp2_with fail
  refine (hCheckShown_any vs s w1 (Rp.ext _ HS.out HB1.out)).mono ?_
  rintro e w2 ⟨rfl, hb⟩
  have HB2 := Lib.hid (HB1.out.trans (hb.mono HB1.out.size))
  clear hb
  generalize shownFault s = f at *
  go_wp2_with fail
  go_ret
  exact ⟨by rw [HF.out]; rfl, HB2.out⟩
set_option maxRecDepth 100000 in
set_option maxHeartbeats 2000000 in
theorem sees_any (vt : Value) (t : List Team) (vl : Value) (l : List Rgt) (x : Shn) (at_ : Int) (w : World) (ht : (Rp.sl teamRp).ok w (· < w.heap.size) [vt] t) (h0 : (Rp.sl rgtRp).ok w (· < w.heap.size) [vl] l) (hg : TGood t) (hrg : RGood t l) (hck : x.key.length ≤ 9223372036854775807) :
    Calls Tryd.prog 60 #[vt, vl, .agg #[.int .i64 x.at_, .string (bstr x.who), .bool x.house, .string (bstr x.key), .int .i64 x.time], .int .i64 at_] w fun e w' => e = .returned (.bool (shB t l x at_)) ∧ Below w.heap.size w w' := by
  have HT := Lib.hid ht
  have H0 := Lib.hid h0
  clear ht h0
  have hl0 := (Below.refl w.heap.size _).alloc (Nat.le_refl _) (.cells #[.int .i64 x.at_, .string (bstr x.who), .bool x.house, .string (bstr x.key), .int .i64 x.time] 50)
  have HBA : Hid (Below w.heap.size w (w.alloc (.cells #[.int .i64 x.at_, .string (bstr x.who), .bool x.house, .string (bstr x.key), .int .i64 x.time] 50))) := Lib.hid (hl0)
  have hk0 : Blk (w.alloc (.cells #[.int .i64 x.at_, .string (bstr x.who), .bool x.house, .string (bstr x.key), .int .i64 x.time] 50)) (w.heap.size) 50 [.int .i64 x.at_, .string (bstr x.who), .bool x.house, .string (bstr x.key), .int .i64 x.time] := by
    have h := Blk.new w 50 [.int .i64 x.at_, .string (bstr x.who), .bool x.house, .string (bstr x.key), .int .i64 x.time]
    simpa only [World.size_alloc] using h
  have HKXA := Lib.hid hk0
  clear hl0 hk0
  go_enter Tryd.func60, Tryd.ntmps60
  go_wp2_with fail
  generalize (w.alloc (.cells #[.int .i64 x.at_, .string (bstr x.who), .bool x.house, .string (bstr x.key), .int .i64 x.time] 50)) = wA at *
  have KEEP : Hid (∀ w', Below wA.heap.size wA w' → (w'.cell? ⟨w.heap.size, 0, none⟩ = some (.int .i64 x.at_) ∧ w'.cell? ⟨w.heap.size, 1, none⟩ = some (.string (bstr x.who)) ∧ w'.cell? ⟨w.heap.size, 2, none⟩ = some (.bool x.house) ∧ w'.cell? ⟨w.heap.size, 3, none⟩ = some (.string (bstr x.key)) ∧ w'.cell? ⟨w.heap.size, 4, none⟩ = some (.int .i64 x.time))) := Lib.hid (fun w' hg => by
    have h1 := HKXA.out.same (same_below hg) HKXA.out.lt
    exact ⟨h1.cell 0, h1.cell 1, h1.cell 2, h1.cell 3, h1.cell 4⟩)
  have HCA : Hid (∀ W, Calls Tryd.prog 62 #[.agg #[.int .i64 x.at_, .string (bstr x.who), .bool x.house, .string (bstr x.key), .int .i64 x.time]] W fun e w' => e = .returned (.agg #[.string (bstr x.key), .int .i64 x.time]) ∧ Below W.heap.size W w') := Lib.hid (fun W => captureOf_any x W)
  have HMA : Hid (∀ W, Below wA.heap.size wA W → Calls Tryd.prog 43 #[vt, vl, .agg #[.string (bstr x.who), .bool x.house], .agg #[.string (bstr x.key), .int .i64 x.time], .int .i64 at_] W fun e w' => e = .returned (.bool (shB t l x at_)) ∧ Below W.heap.size W w') := Lib.hid (fun W hW => hMay_any vt t vl l x.who x.house ⟨x.key, x.time⟩ at_ W (Rp.ext _ (Rp.ext _ HT.out HBA.out) hW) (Rp.ext _ (Rp.ext _ H0.out HBA.out) hW) hg hrg hck)
  refine wp_region_held_drew (S := fun w' => w'.cell? ⟨w.heap.size, 0, none⟩ = some (.int .i64 x.at_) ∧ w'.cell? ⟨w.heap.size, 1, none⟩ = some (.string (bstr x.who)) ∧ w'.cell? ⟨w.heap.size, 2, none⟩ = some (.bool x.house) ∧ w'.cell? ⟨w.heap.size, 3, none⟩ = some (.string (bstr x.key)) ∧ w'.cell? ⟨w.heap.size, 4, none⟩ = some (.int .i64 x.time)) (by kernel_rfl) (KEEP.out _ (Below.drew (Below.refl _ _))) (fun hHeld => ?_)
  obtain ⟨wq, hwq⟩ : ∃ wq, wq = World.drew wA := ⟨_, rfl⟩
  have HG0 : Hid (Below wA.heap.size wA wq) := Lib.hid (by rw [hwq]; exact Below.drew (Below.refl _ _))
  rw [← hwq] at hHeld ⊢
  clear hwq
  refine wpAnyH_take (i := 0) (v := ?_) rfl (by kernel_rfl) (by kernel_rfl) (by kernel_rfl) (fun _ _ _ h => h) (Or.inl ⟨by rfl, ?_⟩) (by assumption) ?_
  rotate_left
  · (intro w hSw; (try dsimp only at hSw); go_simp; try with_reducible rfl)
  try simp only [List.getElem_toArray, List.getElem_cons_succ, List.getElem_cons_zero, Act.put, List.setIfInBounds_toArray, List.set_cons_zero, List.set_cons_succ]
  refine wpAnyH_take (i := 1) (v := ?_) rfl (by kernel_rfl) (by kernel_rfl) (by kernel_rfl) (fun _ _ _ h => h) (Or.inl ⟨by rfl, ?_⟩) (by assumption) ?_
  rotate_left
  · (intro w hSw; (try dsimp only at hSw); go_simp; try with_reducible rfl)
  try simp only [List.getElem_toArray, List.getElem_cons_succ, List.getElem_cons_zero, Act.put, List.setIfInBounds_toArray, List.set_cons_zero, List.set_cons_succ]
  refine wpAnyH_take (i := 2) (v := ?_) rfl (by kernel_rfl) (by kernel_rfl) (by kernel_rfl) (fun _ _ _ h => h) (Or.inl ⟨by rfl, ?_⟩) (by assumption) ?_
  rotate_left
  · (intro w hSw; (try dsimp only at hSw); go_simp; try with_reducible rfl)
  try simp only [List.getElem_toArray, List.getElem_cons_succ, List.getElem_cons_zero, Act.put, List.setIfInBounds_toArray, List.set_cons_zero, List.set_cons_succ]
  refine wpAnyH_take (i := 3) (v := ?_) rfl (by kernel_rfl) (by kernel_rfl) (by kernel_rfl) (fun _ _ _ h => h) (Or.inl ⟨by rfl, ?_⟩) (by assumption) ?_
  rotate_left
  · (intro w hSw; (try dsimp only at hSw); go_simp; try with_reducible rfl)
  try simp only [List.getElem_toArray, List.getElem_cons_succ, List.getElem_cons_zero, Act.put, List.setIfInBounds_toArray, List.set_cons_zero, List.set_cons_succ]
  refine wpAnyH_take (i := 4) (v := ?_) rfl (by kernel_rfl) (by kernel_rfl) (by kernel_rfl) (fun _ _ _ h => h) (Or.inl ⟨by rfl, ?_⟩) (by assumption) ?_
  rotate_left
  · (intro w hSw; (try dsimp only at hSw); go_simp; try with_reducible rfl)
  try simp only [List.getElem_toArray, List.getElem_cons_succ, List.getElem_cons_zero, Act.put, List.setIfInBounds_toArray, List.set_cons_zero, List.set_cons_succ]
  refine wpAnyH_take (i := 5) (v := ?_) rfl (by kernel_rfl) (by kernel_rfl) (by kernel_rfl) (fun _ _ _ h => h) (Or.inl ⟨by rfl, ?_⟩) (by assumption) ?_
  rotate_left
  · (intro w hSw; (try dsimp only at hSw); go_simp; try with_reducible rfl)
  try simp only [List.getElem_toArray, List.getElem_cons_succ, List.getElem_cons_zero, Act.put, List.setIfInBounds_toArray, List.set_cons_zero, List.set_cons_succ]
  refine wpAnyH_take (i := 6) (v := ?_) rfl (by kernel_rfl) (by kernel_rfl) (by kernel_rfl) (fun _ _ _ h => h) (Or.inl ⟨by rfl, ?_⟩) (by assumption) ?_
  rotate_left
  · (intro w hSw; (try dsimp only at hSw); go_simp; try with_reducible rfl)
  try simp only [List.getElem_toArray, List.getElem_cons_succ, List.getElem_cons_zero, Act.put, List.setIfInBounds_toArray, List.set_cons_zero, List.set_cons_succ]
  refine wpAnyH_take (i := 7) (v := ?_) rfl (by kernel_rfl) (by kernel_rfl) (by kernel_rfl) (fun _ _ _ h => h) (Or.inl ⟨by rfl, ?_⟩) (by assumption) ?_
  rotate_left
  · (intro w hSw; (try dsimp only at hSw); go_simp; try with_reducible rfl)
  try simp only [List.getElem_toArray, List.getElem_cons_succ, List.getElem_cons_zero, Act.put, List.setIfInBounds_toArray, List.set_cons_zero, List.set_cons_succ]
  refine wpAnyH_take (i := 9) (v := ?_) rfl (by kernel_rfl) (by kernel_rfl) (by kernel_rfl) (fun _ _ _ h => h) (Or.inl ⟨by rfl, ?_⟩) (by assumption) ?_
  rotate_left
  · (intro w hSw; (try dsimp only at hSw); go_simp; try with_reducible rfl)
  try simp only [List.getElem_toArray, List.getElem_cons_succ, List.getElem_cons_zero, Act.put, List.setIfInBounds_toArray, List.set_cons_zero, List.set_cons_succ]
  refine wpAnyH_ready (rs := [8]) (by kernel_rfl) (by simp) ?_
  refine AllReadyH.cons rfl (fun K hK => ?_) AllReadyH.nil
  rw [if_pos (by rfl)]
  simp only [List.getElem_toArray, List.getElem_cons_succ, List.getElem_cons_zero]
  go_simp
  go_at_call 62
  refine (HCA.out _).mono ?_
  rintro e w5 ⟨rfl, hw⟩
  have HG5 : Hid (Below wA.heap.size wA w5) := Lib.hid (HG0.out.trans (hw.mono HG0.out.size))
  clear hw
  show K _ w5
  refine hK.out _ _ (KEEP.out _ HG5.out) (fun hHeld => ?_)
  clear hK K
  try simp only [List.getElem_toArray, List.getElem_cons_succ, List.getElem_cons_zero, Act.put, List.setIfInBounds_toArray, List.set_cons_zero, List.set_cons_succ]
  refine wpAnyH_ready (rs := [10]) (by kernel_rfl) (by simp) ?_
  refine AllReadyH.cons rfl (fun K hK => ?_) AllReadyH.nil
  rw [if_pos (by rfl)]
  simp only [List.getElem_toArray, List.getElem_cons_succ, List.getElem_cons_zero]
  go_simp
  go_at_call 43
  refine (HMA.out _ HG5.out).mono ?_
  rintro e w6 ⟨rfl, hw⟩
  have HG6 : Hid (Below wA.heap.size wA w6) := Lib.hid (HG5.out.trans (hw.mono HG5.out.size))
  clear hw
  show K _ w6
  refine hK.out _ _ (KEEP.out _ HG6.out) (fun hHeld => ?_)
  clear hK K
  try simp only [List.getElem_toArray, List.getElem_cons_succ, List.getElem_cons_zero, Act.put, List.setIfInBounds_toArray, List.set_cons_zero, List.set_cons_succ]
  refine wpAnyH_take (i := 11) (v := ?_) rfl (by kernel_rfl) (by kernel_rfl) (by kernel_rfl) (fun _ _ _ h => h) (Or.inl ⟨by rfl, ?_⟩) (by assumption) ?_
  rotate_left
  · (intro w hSw; (try dsimp only at hSw); go_simp; try with_reducible rfl)
  try simp only [List.getElem_toArray, List.getElem_cons_succ, List.getElem_cons_zero, Act.put, List.setIfInBounds_toArray, List.set_cons_zero, List.set_cons_succ]
  refine wpAnyH_done (by kernel_rfl) ?_ _
  clear hHeld KEEP
  have HBZ := Lib.hid (HBA.out.trans (HG6.out.mono HBA.out.size))
  go_wp2_with fail
  go_ret
  exact ⟨rfl, HBZ.out⟩
set_option maxRecDepth 100000 in
set_option maxHeartbeats 8000000 in
theorem wrongly_any (vt : Value) (t : List Team) (vl : Value) (l : List Rgt) (vs : Value) (s : List Shn) (w : World) (ht : (Rp.sl teamRp).ok w (· < w.heap.size) [vt] t) (h0 : (Rp.sl rgtRp).ok w (· < w.heap.size) [vl] l) (hs : (Rp.sl shnRp).ok w (· < w.heap.size) [vs] s) :
    Calls Tryd.prog 23 #[vt, vl, vs] w (SelPost (bothF t l s) (wrV t l s) w) := by
  obtain ⟨At, ct, rfl, _⟩ := Rp.sl_open ht
  obtain ⟨Al, cl, rfl, _⟩ := Rp.sl_open h0
  obtain ⟨As, cs, rfl, hls, hcs, _⟩ := Rp.sl_open hs
  unfold maxLen at hcs
  have HT := Lib.hid ht
  have H0 := Lib.hid h0
  have HS := Lib.hid hs
  clear ht h0 hs
  go_enter Tryd.func23, Tryd.ntmps23
  go_wp2_with fail
  refine (checkBoth_any (.slice At t.length ct) t (.slice Al l.length cl) l _ s w HT.out H0.out HS.out).mono ?_
  rintro e w1 ⟨rfl, hb⟩
  have HB1 := Lib.hid hb
  clear hb
  by_cases hf : bothF t l s = 0
  case neg =>
    have HF : Hid (bothF t l s = bothF t l s) := Lib.hid (rfl)
    have HV : Hid (wrV t l s = []) := Lib.hid (if_neg (by exact hf))
    have hn : (bothF t l s != 0) = true := by simpa using hf
    clear hf
    generalize bothF t l s = f at *
    go_wp2_with fail
    go_ret2
    exact ⟨_, rfl, by rw [HV.out]; exact Rp.sl_nil _ _ _, HB1.out⟩
  obtain ⟨htf, hTG, hRG, hs3⟩ := both_good hf
  have HTF := Lib.hid htf
  have HTG := Lib.hid hTG
  have HRG := Lib.hid hRG
  have hrl := hRG.len
  clear htf hTG hRG
  have HV : Hid (wrV t l s = selL (wrP t l s) s.length) := Lib.hid (if_pos hf)
  have HF : Hid (bothF t l s = 0) := Lib.hid hf
  rw [hf]
  clear hf
  have HM0 : Hid (MSt t (.slice At t.length ct) (.slice Al l.length cl) (w1.heap.size + 1) w1.heap.size 0 (fun _ => none) ((w1.alloc (.map #[] 0)).alloc (.cells #[(.slice At t.length ct), (.slice Al l.length cl), .map (some w1.heap.size)] 85))) := Lib.hid (by
    have h1 := Blk.new (w1.alloc (.map #[] 0)) 85 [(.slice At t.length ct), (.slice Al l.length cl), .map (some w1.heap.size)]
    rw [World.size_alloc] at h1
    exact ⟨h1, (VMap.made w1).below ((Below.refl _ _).alloc (Nat.le_refl _) _) (by simp), fun who house kl v hk hf => by cases hf⟩)
  have HB2 : Hid (Below w.heap.size w ((w1.alloc (.map #[] 0)).alloc (.cells #[(.slice At t.length ct), (.slice Al l.length cl), .map (some w1.heap.size)] 85))) := Lib.hid ((HB1.out.trans (((Below.refl w1.heap.size w1).alloc (Nat.le_refl _) _).mono HB1.out.size)).trans (((Below.refl (w1.alloc (.map #[] 0)).heap.size _).alloc (Nat.le_refl _) _).mono (by rw [World.size_alloc]; have := HB1.out.size; omega)))
  have hsz2 : ((w1.alloc (.map #[] 0)).alloc (.cells #[(.slice At t.length ct), (.slice Al l.length cl), .map (some w1.heap.size)] 85)).heap.size = w1.heap.size + 1 + 1 := by simp
  have hw1 := HB1.out.size
  have hmm := @run_makeMap Tryd.prog
  go_wp2_with fail
  clear hmm
  generalize (w1.alloc (.map #[] 0)).alloc (.cells #[(.slice At t.length ct), (.slice Al l.length cl), .map (some w1.heap.size)] 85) = w2 at *
  obtain ⟨b, hb⟩ : ∃ b, b = w1.heap.size := ⟨_, rfl⟩
  rw [← hb] at HM0 hsz2 hw1 ⊢
  clear hb
  go_loopw [10, 27] (fun vo vi wr => ∃ (k n : Nat) (f : Lit → Option Value), k ≤ s.length ∧ vi = .int .i64 k ∧ n ≤ 2 * k ∧ Hid (MSt t (.slice At t.length ct) (.slice Al l.length cl) (b + 1) b n f wr) ∧ Hid (wr.ownsRow w2.heap.size 3 1 vo (selL (wrP t l s) k).length (ivals (selL (wrP t l s) k))) ∧ Hid (Below w.heap.size w wr) ∧ Hid (w2.heap.size ≤ wr.heap.size)) (fun _ vi _ => s.length - (intOf vi).toNat)
  case atStart => exact ⟨0, 0, fun _ => none, by omega, rfl, by omega, HM0, World.ownsRow_nil _ _ _ _, HB2, Nat.le_refl _⟩
  case round =>
    clear HM0 HB2
    obtain ⟨k, n, f, hk, rfl, hnk, HM, HO, HB, HWS⟩ := hrel
    obtain ⟨Ao, co, hvo, hco1, hco2, _⟩ := own_form HO.out
    subst hvo
    have hol := selL_len (wrP t l s) k
    by_cases hlt : k < s.length
    · obtain ⟨ad, c', e1, hadb, c0, c1, c2, c3, c4, hz⟩ := shn_at (Rp.below _ HS.out HB.out) hlt
      injection e1 with e1 _ e2
      subst e1 e2
      obtain ⟨_, hxw, hxk, _⟩ := hz
      have HP : Hid (wrP t l s k = (!shB t l s[k] s[k].at_)) := Lib.hid (by unfold wrP; rw [getD_at _ _ hlt])
      generalize hx : s[k] = x at *
      clear hx
      have hal := (Below.refl wr.heap.size wr).alloc (Nat.le_refl _) (.cells #[.int .i64 x.at_, .string (bstr x.who), .bool x.house, .string (bstr x.key), .int .i64 x.time] 50)
      have HB4 := Lib.hid (HB.out.trans (hal.mono HB.out.size))
      have HKX4 := Lib.hid (Blk.new wr 50 [.int .i64 x.at_, .string (bstr x.who), .bool x.house, .string (bstr x.key), .int .i64 x.time])
      have HO4 := Lib.hid (own_below HO.out hal)
      have HWS4 := Lib.hid (Nat.le_trans HWS.out hal.size)
      have HM4 := Lib.hid (HM.out.below hal)
      clear hal
      have x0 : (wr.alloc (.cells #[.int .i64 x.at_, .string (bstr x.who), .bool x.house, .string (bstr x.key), .int .i64 x.time] 50)).cell? ⟨wr.heap.size, 0, none⟩ = some (.int .i64 x.at_) := HKX4.out.cell 0
      have x1 : (wr.alloc (.cells #[.int .i64 x.at_, .string (bstr x.who), .bool x.house, .string (bstr x.key), .int .i64 x.time] 50)).cell? ⟨wr.heap.size, 1, none⟩ = some (.string (bstr x.who)) := HKX4.out.cell 1
      have x2 : (wr.alloc (.cells #[.int .i64 x.at_, .string (bstr x.who), .bool x.house, .string (bstr x.key), .int .i64 x.time] 50)).cell? ⟨wr.heap.size, 2, none⟩ = some (.bool x.house) := HKX4.out.cell 2
      have x3 : (wr.alloc (.cells #[.int .i64 x.at_, .string (bstr x.who), .bool x.house, .string (bstr x.key), .int .i64 x.time] 50)).cell? ⟨wr.heap.size, 3, none⟩ = some (.string (bstr x.key)) := HKX4.out.cell 3
      have x4 : (wr.alloc (.cells #[.int .i64 x.at_, .string (bstr x.who), .bool x.house, .string (bstr x.key), .int .i64 x.time] 50)).cell? ⟨wr.heap.size, 4, none⟩ = some (.int .i64 x.time) := HKX4.out.cell 4
      go_wp2_with fail
      clear c0 c1 c2 c3 c4 x0 x1 x2 x3 x4
      obtain ⟨xb, hxb⟩ : ∃ xb, xb = wr.heap.size := ⟨_, rfl⟩
      have HXB := Lib.hid hxb
      rw [← hxb] at HKX4 ⊢
      clear hxb
      generalize (wr.alloc (.cells #[.int .i64 x.at_, .string (bstr x.who), .bool x.house, .string (bstr x.key), .int .i64 x.time] 50)) = wr4 at *
      have hxk9 : x.key.length ≤ 9223372036854775807 := hxk
      refine (maysMay_any t l x x.at_ (.slice At t.length ct) (.slice Al l.length cl) (b + 1) b n f wr4 w.heap.size (Rp.below _ HT.out HB4.out) (Rp.below _ H0.out HB4.out) HTG.out (by omega) (by omega) HM4.out (by omega) (by omega) hxw hxk).mono ?_
      rintro e wr5 ⟨rfl, hg, m5, f5, hm5, hM⟩
      rw [mayS_eq HTF.out HRG.out]
      have HG5 := Lib.hid hg
      have HM5 := Lib.hid hM
      have HB5 := Lib.hid (HB4.out.grown hg HB4.out.size (fun j e => by have := Option.some.inj e; omega))
      have HKX5 := Lib.hid (HKX4.out.same (grown_same hg) ⟨HKX4.out.lt, fun e => by have := Option.some.inj e; have := HXB.out; have := HWS.out; omega⟩)
      have HO5 := Lib.hid (HO4.out.kept hg (.inr (HM4.out.map.notRow HO4.out).symm))
      have HWS5 := Lib.hid (Nat.le_trans HWS4.out hg.size)
      clear hg hM
      cases hq : shB t l x x.at_ with
      | true =>
        have HE := Lib.hid (selL_no (n := k) (p := wrP t l s) (HP.out.trans (by rw [hq]; rfl)))
        go_wp2_with fail
        go_roundw
        case rel => first | exact ⟨k + 1, m5, _, by omega, by go_num, by omega, HM5, by rw [HE.out]; exact HO5, HB5, HWS5⟩ | (repeat (apply Exists.intro); (refine And.intro ?_ ?_; rotate_left; (repeat' (first | exact rfl | apply And.intro)); exact ⟨k + 1, m5, _, by omega, by go_num, by omega, HM5, by rw [HE.out]; exact HO5, HB5, HWS5⟩))
        case measure => simp [intOf]; omega
      | false =>
        have HE := Lib.hid (selL_yes (n := k) (p := wrP t l s) (HP.out.trans (by rw [hq]; rfl)))
        have hbs : w2.heap.size ≤ wr5.heap.size := HWS5.out
        go_wp2_with (at_builtin; go_must (refine app_new (w := wr5) rfl (.tmp 38) (.tmp 40) 52 rfl 3 (.int .i64 0) 1 8 Tryd.underlying52 int_info rfl (by decide) (m := 1) [.int .i64 (k : Int)] HO5.out hbs rfl rfl rfl (by decide) (by simp [Value.oneCell']) (by unfold maxLen; omega) (by omega) ?_); intro g7 c7 w7 HO7 HG7 HE7 HL7)
        have HOB := Lib.hid (fun g hg => (HO5.out.lt g hg).1)
        have HM7 := Lib.hid (HM5.out.grown HG7.out (fun e => by have := HOB.out _ e.symm; omega) (fun e => by have := HOB.out _ e.symm; omega) (fun v B j xs h => row_ne h HO5.out (by decide)))
        have HB7 := Lib.hid (HB5.out.grown HG7.out HB5.out.size (fun g hg => by have h1 := (HO5.out.lt g hg).1; have h2 := HB1.out.size; omega))
        have HWS7 := Lib.hid (Nat.le_trans hbs HG7.out.size)
        go_roundw
        case rel => first | exact ⟨k + 1, m5, _, by omega, by go_num, by omega, HM7, by rw [HE.out.1, HE.out.2]; exact HO7, HB7, HWS7⟩ | (repeat (apply Exists.intro); (refine And.intro ?_ ?_; rotate_left; (repeat' (first | exact rfl | apply And.intro)); exact ⟨k + 1, m5, _, by omega, by go_num, by omega, HM7, by rw [HE.out.1, HE.out.2]; exact HO7, HB7, HWS7⟩))
        case measure => simp [intOf]; omega
    · obtain rfl : k = s.length := by omega
      go_wp2_with fail
      go_ret2
      exact ⟨_, by rw [HF.out]; rfl, by rw [HV.out]; exact ints_read HO.out (fun j hj => by have := selL_lt _ _ j hj; omega), HB.out⟩
set_option maxRecDepth 100000 in
set_option maxHeartbeats 8000000 in
theorem hWrongly_any (vt : Value) (t : List Team) (vl : Value) (l : List Rgt) (vs : Value) (s : List Shn) (w : World) (ht : (Rp.sl teamRp).ok w (· < w.heap.size) [vt] t) (h0 : (Rp.sl rgtRp).ok w (· < w.heap.size) [vl] l) (hs : (Rp.sl shnRp).ok w (· < w.heap.size) [vs] s) :
    Calls Tryd.prog 24 #[vt, vl, vs] w (SelPost (bothF t l s) (wrV t l s) w) := by
  obtain ⟨As, cs, rfl, hls, hcs, _⟩ := Rp.sl_open hs
  unfold maxLen at hcs
  have HT := Lib.hid ht
  have H0 := Lib.hid h0
  have HS := Lib.hid hs
  clear ht h0 hs
  go_enter Tryd.func24, Tryd.ntmps24
  go_wp2_with fail
  refine (askShown_any vt t vl l _ s w HT.out H0.out HS.out).mono ?_
  rintro e w1 ⟨rfl, hb⟩
  have HB1 := Lib.hid hb
  clear hb
  by_cases hf : bothF t l s = 0
  case neg =>
    have HF : Hid (bothF t l s = bothF t l s) := Lib.hid (rfl)
    have HV : Hid (wrV t l s = []) := Lib.hid (if_neg (by exact hf))
    have hn : (bothF t l s != 0) = true := by simpa using hf
    clear hf
    generalize bothF t l s = f at *
    go_wp2_with fail
    go_ret2
    exact ⟨_, rfl, by rw [HV.out]; exact Rp.sl_nil _ _ _, HB1.out⟩
  obtain ⟨htf, hTG, hRG, hs3⟩ := both_good hf
  have HTF := Lib.hid htf
  have HTG := Lib.hid hTG
  have HRG := Lib.hid hRG
  have hrl := hRG.len
  clear htf hTG hRG
  have HV : Hid (wrV t l s = selL (wrP t l s) s.length) := Lib.hid (if_pos hf)
  have HF : Hid (bothF t l s = 0) := Lib.hid hf
  rw [hf]
  clear hf
  go_wp2_with fail
  go_loopw [9, 21] (fun vo vi wr => ∃ (k : Nat), k ≤ s.length ∧ vi = .int .i64 k ∧ Hid (wr.ownsRow w1.heap.size 3 1 vo (selL (wrP t l s) k).length (ivals (selL (wrP t l s) k))) ∧ Hid (Below w.heap.size w wr) ∧ Hid (w1.heap.size ≤ wr.heap.size)) (fun _ vi _ => s.length - (intOf vi).toNat)
  case atStart => exact ⟨0, by omega, rfl, World.ownsRow_nil _ _ _ _, HB1, Nat.le_refl _⟩
  case round =>
    obtain ⟨k, hk, rfl, HO, HB, HWS⟩ := hrel
    obtain ⟨Ao, co, hvo, hco1, hco2, _⟩ := own_form HO.out
    subst hvo
    have hol := selL_len (wrP t l s) k
    by_cases hlt : k < s.length
    · obtain ⟨ad, c', e1, hadb, c0, c1, c2, c3, c4, hz⟩ := shn_at (Rp.below _ HS.out HB.out) hlt
      injection e1 with e1 _ e2
      subst e1 e2
      obtain ⟨_, hxw, hxk, _⟩ := hz
      have HP : Hid (wrP t l s k = (!shB t l s[k] s[k].at_)) := Lib.hid (by unfold wrP; rw [getD_at _ _ hlt])
      generalize hx : s[k] = x at *
      clear hx
      have hal := (Below.refl wr.heap.size wr).alloc (Nat.le_refl _) (.cells #[.int .i64 x.at_, .string (bstr x.who), .bool x.house, .string (bstr x.key), .int .i64 x.time] 50)
      have HB4 := Lib.hid (HB.out.trans (hal.mono HB.out.size))
      have HKX4 := Lib.hid (Blk.new wr 50 [.int .i64 x.at_, .string (bstr x.who), .bool x.house, .string (bstr x.key), .int .i64 x.time])
      have HO4 := Lib.hid (own_below HO.out hal)
      have HWS4 := Lib.hid (Nat.le_trans HWS.out hal.size)
      clear hal
      have x0 : (wr.alloc (.cells #[.int .i64 x.at_, .string (bstr x.who), .bool x.house, .string (bstr x.key), .int .i64 x.time] 50)).cell? ⟨wr.heap.size, 0, none⟩ = some (.int .i64 x.at_) := HKX4.out.cell 0
      have x1 : (wr.alloc (.cells #[.int .i64 x.at_, .string (bstr x.who), .bool x.house, .string (bstr x.key), .int .i64 x.time] 50)).cell? ⟨wr.heap.size, 1, none⟩ = some (.string (bstr x.who)) := HKX4.out.cell 1
      have x2 : (wr.alloc (.cells #[.int .i64 x.at_, .string (bstr x.who), .bool x.house, .string (bstr x.key), .int .i64 x.time] 50)).cell? ⟨wr.heap.size, 2, none⟩ = some (.bool x.house) := HKX4.out.cell 2
      have x3 : (wr.alloc (.cells #[.int .i64 x.at_, .string (bstr x.who), .bool x.house, .string (bstr x.key), .int .i64 x.time] 50)).cell? ⟨wr.heap.size, 3, none⟩ = some (.string (bstr x.key)) := HKX4.out.cell 3
      have x4 : (wr.alloc (.cells #[.int .i64 x.at_, .string (bstr x.who), .bool x.house, .string (bstr x.key), .int .i64 x.time] 50)).cell? ⟨wr.heap.size, 4, none⟩ = some (.int .i64 x.time) := HKX4.out.cell 4
      go_wp2_with fail
      clear c0 c1 c2 c3 c4 x0 x1 x2 x3 x4
      obtain ⟨xb, hxb⟩ : ∃ xb, xb = wr.heap.size := ⟨_, rfl⟩
      have HXB := Lib.hid hxb
      rw [← hxb] at HKX4 ⊢
      clear hxb
      generalize (wr.alloc (.cells #[.int .i64 x.at_, .string (bstr x.who), .bool x.house, .string (bstr x.key), .int .i64 x.time] 50)) = wr4 at *
      have hxk9 : x.key.length ≤ 9223372036854775807 := hxk
      refine (sees_any vt t vl l x x.at_ wr4 (Rp.ext _ HT.out HB4.out) (Rp.ext _ H0.out HB4.out) HTG.out HRG.out hxk9).mono ?_
      rintro e wr5 ⟨rfl, hb⟩
      have HB5 := Lib.hid (HB4.out.trans (hb.mono HB4.out.size))
      have HKX5 := Lib.hid (HKX4.out.same (same_below hb) HKX4.out.lt)
      have HO5 := Lib.hid (own_below HO4.out hb)
      have HWS5 := Lib.hid (Nat.le_trans HWS4.out hb.size)
      clear hb
      cases hq : shB t l x x.at_ with
      | true =>
        have HE := Lib.hid (selL_no (n := k) (p := wrP t l s) (HP.out.trans (by rw [hq]; rfl)))
        go_wp2_with fail
        go_roundw
        case rel => first | exact ⟨k + 1, by omega, by go_num, by rw [HE.out]; exact HO5, HB5, HWS5⟩ | (repeat (apply Exists.intro); (refine And.intro ?_ ?_; rotate_left; (repeat' (first | exact rfl | apply And.intro)); exact ⟨k + 1, by omega, by go_num, by rw [HE.out]; exact HO5, HB5, HWS5⟩))
        case measure => simp [intOf]; omega
      | false =>
        have HE := Lib.hid (selL_yes (n := k) (p := wrP t l s) (HP.out.trans (by rw [hq]; rfl)))
        have hbs : w1.heap.size ≤ wr5.heap.size := HWS5.out
        go_wp2_with (at_builtin; go_must (refine app_new (w := wr5) rfl (.tmp 33) (.tmp 35) 52 rfl 3 (.int .i64 0) 1 8 Tryd.underlying52 int_info rfl (by decide) (m := 1) [.int .i64 (k : Int)] HO5.out hbs rfl rfl rfl (by decide) (by simp [Value.oneCell']) (by unfold maxLen; omega) (by omega) ?_); intro g7 c7 w7 HO7 HG7 HE7 HL7)
        have HB7 := Lib.hid (HB5.out.grown HG7.out HB5.out.size (fun g hg => by have h1 := (HO5.out.lt g hg).1; have h2 := HB1.out.size; omega))
        have HWS7 := Lib.hid (Nat.le_trans hbs HG7.out.size)
        go_roundw
        case rel => first | exact ⟨k + 1, by omega, by go_num, by rw [HE.out.1, HE.out.2]; exact HO7, HB7, HWS7⟩ | (repeat (apply Exists.intro); (refine And.intro ?_ ?_; rotate_left; (repeat' (first | exact rfl | apply And.intro)); exact ⟨k + 1, by omega, by go_num, by rw [HE.out.1, HE.out.2]; exact HO7, HB7, HWS7⟩))
        case measure => simp [intOf]; omega
    · obtain rfl : k = s.length := by omega
      go_wp2_with fail
      go_ret2
      exact ⟨_, by rw [HF.out]; rfl, by rw [HV.out]; exact ints_read HO.out (fun j hj => by have := selL_lt _ _ j hj; omega), HB.out⟩
end Go.Proofs.YtmlhpemgpndppaaDoor
