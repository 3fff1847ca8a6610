/-
  'Climb' of both packages: the root to which a leaf leads.
-/
import Derived.Test.YtnnoolemmnailaaDoorProg
import Derived.Test.YtnnoolemmnailaaDoorRefProof
namespace Go.Proofs.YtnnoolemmnailaaDoor
open Go.RowKit
set_option linter.unusedVariables false
set_option linter.unusedSimpArgs false

def climbFault (x : Leaf) (l : List Side) : Int := if leafF x ≠ 0 then leafF x else if 30 < l.length then 2 else if ∀ s ∈ l, isDig s.digest = true then 0 else 3
def climbTopL (x : Leaf) (l : List Side) : Str8 := if climbFault x l = 0 then climbOf (leafD x) l else []
def ClimbTop (x : Leaf) (l : List Side) (w : World) (e : Ending) (w' : World) : Prop :=
  e = .returned (.tuple #[.string (bstr (climbTopL x l)), .int .i64 (climbFault x l)]) ∧ Below w.heap.size w w'
theorem ClimbTop.bad {x : Leaf} {l : List Side} {w w' : World} {f : Int} (h : climbFault x l = f) (h0 : f ≠ 0) (hb : Below w.heap.size w w') : ClimbTop x l w (.returned (.tuple #[.string ⟨#[]⟩, .int .i64 f])) w' :=
  ⟨by rw [climbTopL, if_neg (by rw [h]; exact h0), h]; rfl, hb⟩
theorem climb_take (d : Str8) (l : List Side) (k : Nat) (h : k < l.length) : climbOf d (l.take (k + 1)) = climbS (climbOf d (l.take k)) l[k] := by
  rw [List.take_succ_eq_append_getElem h, climbOf, List.foldl_append]; rfl
theorem climbS_len (d : Str8) (s : Side) : (climbS d s).length = 16 := by unfold climbS; split <;> exact nodeD_len _ _
theorem climb_len (d : Str8) (l : List Side) (h : d.length = 16) : (climbOf d l).length = 16 := by
  unfold climbOf
  induction l generalizing d with
  | nil => exact h
  | cons s l ih => rw [List.foldl_cons]; exact ih _ (climbS_len _ _)
theorem side_at {w : World} {S : Nat → Prop} {v : Value} {l : List Side} (h : (Rp.sl sideRp).ok w S [v] l) {k : Nat} (hk : k < l.length) :
    ∃ ad c, v = .slice (some ad) l.length c ∧ S ad.block ∧ w.cell? (ad.add (k * 2)) = some (.string (bstr l[k].digest)) ∧ w.cell? ⟨(ad.add (k * 2)).block, (ad.add (k * 2)).off + 1, none⟩ = some (.bool l[k].left) ∧ l[k].digest.length ≤ 9223372036854775807 := by
  obtain ⟨A, c, rfl, _⟩ := Rp.sl_open h
  obtain ⟨ad, us, rfl, _, hb, hu, hcell⟩ := Rp.sl_at h hk
  obtain ⟨rfl, hz1⟩ := side_open hu
  have c0 := hcell 0 _ rfl
  have c1 := hcell 1 _ rfl
  rw [add_fld _ _ _ (by omega)] at c1
  unfold maxLen at hz1
  exact ⟨ad, c, rfl, hb, c0, c1, by omega⟩
theorem climbFault_bad {x : Leaf} {l : List Side} {k : Nat} (h0 : leafF x = 0) (h1 : ¬ 30 < l.length) (hk : k < l.length) (h : isDig l[k].digest = false) : climbFault x l = 3 := by
  rw [climbFault, if_neg (by rw [h0]; decide), if_neg h1, if_neg]
  intro hall
  have := hall l[k] (List.getElem_mem hk)
  rw [h] at this
  cases this
theorem climbFault_ok {x : Leaf} {l : List Side} (h0 : leafF x = 0) (h1 : ¬ 30 < l.length) (h : ∀ s ∈ l, isDig s.digest = true) : climbFault x l = 0 := by
  rw [climbFault, if_neg (by rw [h0]; decide), if_neg h1, if_pos h]
theorem dig_step {l : List Side} {k : Nat} (hk : k < l.length) (h : ∀ s ∈ l.take k, isDig s.digest = true) (hd : isDig l[k].digest = true) : ∀ s ∈ l.take (k + 1), isDig s.digest = true := by
  intro s hs
  rw [List.take_succ_eq_append_getElem hk, List.mem_append, List.mem_singleton] at hs
  rcases hs with hs | rfl
  · exact h s hs
  · exact hd
set_option maxRecDepth 100000 in
set_option maxHeartbeats 4000000 in
theorem climbTop_any (x : Leaf) (v1 : Value) (l : List Side) (w : World) (hx1 : x.key.length ≤ 9223372036854775807) (hx2 : x.digest.length ≤ 9223372036854775807) (h1 : (Rp.sl sideRp).ok w (· < w.heap.size) [v1] l) :
    Calls Tryd.prog 19 #[.agg #[.string (bstr x.key), .string (bstr x.digest)], v1] w (ClimbTop x l w) := by
  obtain ⟨A, c, rfl, hl, hc, _⟩ := Rp.sl_open h1
  unfold maxLen at hc
  have hab := (Below.refl w.heap.size w).alloc (Nat.le_refl _) (.cells #[.string (bstr x.key), .string (bstr x.digest)] 33)
  have hkb := Blk.new w 33 [.string (bstr x.key), .string (bstr x.digest)]
  have HS := Lib.hid (Rp.ext _ h1 hab)
  have HAB := Lib.hid hab
  have HKB := Lib.hid hkb
  have k0 : _ = some (Value.string (bstr x.key)) := hkb.cell 0
  have k1 : _ = some (Value.string (bstr x.digest)) := hkb.cell 1
  have hlt0 : w.heap.size < (w.alloc (.cells #[.string (bstr x.key), .string (bstr x.digest)] 33)).heap.size := by simp
  clear h1 hab hkb
  go_enter Tryd.func19, Tryd.ntmps19
  go_wp2_with fail
  refine (checkLeaf_any x _ hx1 hx2).mono ?_
  rintro e w1 ⟨rfl, hb1⟩
  have HB1 := Lib.hid (ext_trans HAB.out hb1)
  have HS1 := Lib.hid (Rp.ext _ HS.out hb1)
  have hkb1 := HKB.out.same (same_below hb1) hlt0
  have j0 : _ = some (Value.string (bstr x.key)) := hkb1.cell 0
  have j1 : _ = some (Value.string (bstr x.digest)) := hkb1.cell 1
  clear k0 k1 HS HAB HKB hb1 hkb1 hlt0
  by_cases hf : leafF x = 0
  · rw [hf]
    have HF := Lib.hid hf
    have hxl := leaf_len hf
    clear hf
    by_cases hbig : 30 < l.length
    · have HP := Lib.hid (ClimbTop.bad (w := w) (x := x) (l := l) (f := 2) (by rw [climbFault, if_neg (by rw [HF.out]; decide), if_pos hbig]) (by decide) HB1.out)
      have hbig' : (30 : Int) < (l.length : Int) := by omega
      go_wp2_with fail
      go_ret2
      exact HP.out
    have hbig' : ¬ (30 : Int) < (l.length : Int) := by omega
    go_wp2_with fail
    refine (leafDigest_any x _ hxl.1 hxl.2).mono ?_
    rintro e w2 ⟨rfl, hb2⟩
    have HB2 := Lib.hid (ext_trans HB1.out hb2)
    have HS2 := Lib.hid (Rp.ext _ HS1.out hb2)
    clear j0 j1 hb2 HS1 HB1 hxl
    go_wp2_with fail
    go_loopw [7, 22] (fun va vi wr => ∃ k : Nat, k ≤ l.length ∧ vi = .int .i64 k ∧ va = .string (bstr (climbOf (leafD x) (l.take k))) ∧ Hid (∀ s ∈ l.take k, isDig s.digest = true) ∧ Hid (Below w2.heap.size w2 wr)) (fun _ vi _ => l.length - (intOf vi).toNat)
    case atStart => exact ⟨0, by omega, rfl, rfl, Lib.hid (fun s hs => by simp at hs), Below.refl _ _⟩
    case round =>
      obtain ⟨k, hk, rfl, rfl, HD, HB3⟩ := hrel
      by_cases hlt : k < l.length
      · obtain ⟨ad, c', e1, _, c0, c1, hz⟩ := side_at (Rp.below _ HS2.out HB3.out) hlt
        cases e1
        have HCT := Lib.hid (climb_take (leafD x) l k hlt)
        have HBAD := Lib.hid (fun h => climbFault_bad (x := x) HF.out hbig hlt h)
        have HDS := Lib.hid (fun h => dig_step hlt HD.out h)
        have hcl := climb_len (leafD x) (l.take k) (leafD_len x)
        generalize climbOf (leafD x) (l.take k) = d at *
        generalize l[k] = s at *
        have HBA := Lib.hid (HB3.out.alloc HB3.out.size (.cells #[.string (bstr s.digest), .bool s.left] 39))
        have hkb := Blk.new wr 39 [.string (bstr s.digest), .bool s.left]
        have HKB := Lib.hid hkb
        have d0 : _ = some (Value.string (bstr s.digest)) := hkb.cell 0
        have d1 : _ = some (Value.bool s.left) := hkb.cell 1
        have hlt1 : wr.heap.size < (wr.alloc (.cells #[.string (bstr s.digest), .bool s.left] 39)).heap.size := by simp
        clear hkb
        go_wp2_with fail
        refine (isDigest_any s.digest _ hz).mono ?_
        rintro e w4 ⟨rfl, hb4⟩
        have HB4 := Lib.hid (HBA.out.trans (hb4.mono HBA.out.size))
        have hkb4 := HKB.out.same (same_below hb4) hlt1
        have f0 : _ = some (Value.string (bstr s.digest)) := hkb4.cell 0
        have f1 : _ = some (Value.bool s.left) := hkb4.cell 1
        clear c0 c1 d0 d1 hb4 hkb4 HKB hlt1
        cases hdg : isDig s.digest with
        | false =>
          have HP := Lib.hid (ClimbTop.bad (w := w) (x := x) (l := l) (f := 3) (HBAD.out hdg) (by decide) (HB2.out.trans (HB4.out.mono HB2.out.size)))
          go_wp2_with fail
          go_ret2
          exact HP.out
        | true =>
          have hsl := isDig_len hdg
          have HDD := Lib.hid (HDS.out hdg)
          clear hdg HDS HBAD HD
          cases hsf : s.left with
          | true =>
            rw [hsf] at f1
            go_wp2_with fail
            refine (node_any s.digest d _ (by omega) (by omega)).mono ?_
            rintro e w5 ⟨rfl, hb5⟩
            have HB5 := Lib.hid (HB4.out.trans (hb5.mono HB4.out.size))
            clear hb5 f0 f1
            go_wp2_with fail
            go_roundw
            case rel => exact ⟨k + 1, by omega, by go_num, by rw [HCT.out, climbS, if_pos hsf], HDD, HB5⟩
            case measure => simp [intOf]; omega
          | false =>
            rw [hsf] at f1
            go_wp2_with fail
            refine (node_any d s.digest _ (by omega) (by omega)).mono ?_
            rintro e w5 ⟨rfl, hb5⟩
            have HB5 := Lib.hid (HB4.out.trans (hb5.mono HB4.out.size))
            clear hb5 f0 f1
            go_wp2_with fail
            go_roundw
            case rel => exact ⟨k + 1, by omega, by go_num, by rw [HCT.out, climbS, if_neg (by rw [hsf]; decide)], HDD, HB5⟩
            case measure => simp [intOf]; omega
      · obtain rfl : k = l.length := by omega
        rw [List.take_length] at *
        have hcf := climbFault_ok (x := x) HF.out hbig HD.out
        have HP := Lib.hid (show ClimbTop x l w (.returned (.tuple #[.string (bstr (climbOf (leafD x) l)), .int .i64 0])) wr from ⟨by rw [climbTopL, if_pos hcf, hcf], HB2.out.trans (HB3.out.mono HB2.out.size)⟩)
        clear hcf HD
        go_wp2_with fail
        go_ret2
        exact HP.out
  · have HP := Lib.hid (ClimbTop.bad (w := w) (x := x) (l := l) (f := leafF x) (by rw [climbFault, if_pos hf]) hf HB1.out)
    generalize leafF x = f at *
    go_wp2_with fail
    go_ret2
    exact HP.out
end Go.Proofs.YtnnoolemmnailaaDoor
