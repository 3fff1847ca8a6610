/-
  The place of a site among sites: 'siteAt' of package care, 'siteOf' of the reference.
-/
import Derived.Test.YtnkdcmibafjplaaGreatDoorProg
import Derived.Test.YtnkdcmibafjplaaGreatDoorSites
namespace Go.Proofs.YtnkdcmibafjplaaGreatDoor
open Go.RowKit
set_option linter.unusedVariables false
set_option linter.unusedSimpArgs false

def siteIdx (l : List Site) (name : List UInt8) : Int := if l.findIdx (fun s => decide (s.name = name)) = l.length then -1 else (l.findIdx (fun s => decide (s.name = name)) : Nat)
theorem siteIdx_hit {l : List Site} {name : List UInt8} {k : Nat} (hk : k < l.length) (h : l[k].name = name) (hn : ∀ j, j < k → ∀ hj : j < l.length, l[j].name ≠ name) : siteIdx l name = k := by
  have : l.findIdx (fun s => decide (s.name = name)) = k := (List.findIdx_eq hk).2 ⟨decide_eq_true h, fun j hj => decide_eq_false (hn j hj (by omega))⟩
  rw [siteIdx, this, if_neg (by omega)]
theorem siteIdx_none {l : List Site} {name : List UInt8} (hn : ∀ j, ∀ hj : j < l.length, l[j].name ≠ name) : siteIdx l name = -1 := by
  have : l.findIdx (fun s => decide (s.name = name)) = l.length := List.findIdx_eq_length.2 fun x hx => by
    obtain ⟨j, hj, rfl⟩ := List.getElem_of_mem hx
    exact decide_eq_false (hn j hj)
  rw [siteIdx, if_pos this]
theorem siteIdx_range (l : List Site) (name : List UInt8) : (siteIdx l name = -1 ∧ ∀ s ∈ l, s.name ≠ name) ∨ ∃ k : Nat, ∃ hk : k < l.length, siteIdx l name = k ∧ l[k].name = name := by
  unfold siteIdx
  by_cases h : l.findIdx (fun s => decide (s.name = name)) = l.length
  · rw [if_pos h]
    exact .inl ⟨rfl, fun s hs => of_decide_eq_false (List.findIdx_eq_length.1 h s hs)⟩
  · rw [if_neg h]
    have hlt : l.findIdx (fun s => decide (s.name = name)) < l.length := by
      have := List.findIdx_le_length (p := fun s : Site => decide (s.name = name)) (xs := l)
      omega
    exact .inr ⟨_, hlt, rfl, of_decide_eq_true ((List.findIdx_eq hlt).1 rfl).1⟩
def siteCells (x : Site) : List Value := [.string (bstr x.name), .int .i64 x.weight, .int .i64 x.room]
set_option maxRecDepth 100000 in
set_option maxHeartbeats 400000 in
theorem siteFn_any (x : Site) (name : List UInt8) (B : Nat) (w : World) (hB : w.cell? ⟨B, 0, none⟩ = some (.string (bstr name))) :
    Calls Tryz.prog 74 #[.agg (siteCells x).toArray, .pointer (some ⟨B, 0, none⟩)] w fun e w' => e = .returned (.bool (decide (x.name = name))) ∧ w' = w.alloc (.cells (siteCells x).toArray 44) := by
  have hkb := Blk.new w 44 (siteCells x)
  have k0 : _ = some (Value.string (bstr x.name)) := hkb.cell 0
  have hlt := World.block_lt_of_cell? w _ hB
  have hB' : (w.alloc (.cells (siteCells x).toArray 44)).cell? ⟨B, 0, none⟩ = some (.string (bstr name)) := (((Below.refl w.heap.size w).alloc (Nat.le_refl _) _).cell hlt).trans hB
  have hne : ((bstr x.name).toList == (bstr name).toList) = decide (x.name = name) := by
    rw [str_dec]
    by_cases h : x.name = name
    · rw [decide_eq_true h, decide_eq_true (by rw [h])]
    · rw [decide_eq_false h, decide_eq_false (fun e => h (bstr_inj e))]
  have HNE := Lib.hid hne
  unfold siteCells at *
  clear hkb hne hB
  go_enter Tryz.func74, Tryz.ntmps74
  go_wp2
  go_ret
  exact ⟨by rw [← HNE.out]; rfl, rfl⟩
set_option maxRecDepth 100000 in
set_option maxHeartbeats 1000000 in
theorem siteIndex_any (v : Value) (l : List Site) (name : List UInt8) (B : Nat) (w : World) (h : (Rp.sl siteRp).ok w (· < w.heap.size) [v] l) (hB : w.cell? ⟨B, 0, none⟩ = some (.string (bstr name))) :
    Calls Tryz.prog 73 #[v, .func (.func 74) #[] #[.pointer (some ⟨B, 0, none⟩)]] w fun e w' => e = .returned (.int .i64 (siteIdx l name)) ∧ Below w.heap.size w w' := by
  obtain ⟨A, c, rfl, hl, hc, _⟩ := Rp.sl_open h
  unfold maxLen at hc
  have H := Lib.hid h
  have hlt0 := World.block_lt_of_cell? w _ hB
  have HBC := Lib.hid hB
  clear h hB
  go_enter Tryz.func73, Tryz.ntmps73
  go_wp2_with fail
  go_loopw [5, 8] (fun _ i wr => ∃ k : Nat, k ≤ l.length ∧ i = .int .i64 k ∧ Hid (∀ j, j < k → ∀ hj : j < l.length, l[j].name ≠ name) ∧ Hid (Below w.heap.size w wr)) (fun _ i _ => l.length - (intOf i).toNat)
  case atStart => exact ⟨0, by omega, rfl, (fun j hj => absurd hj (by omega)), Below.refl _ _⟩
  case round =>
    obtain ⟨k, hk, rfl, HS, HB⟩ := hrel
    by_cases hlt : k < l.length
    · obtain ⟨ad, us, rfl, _, hadb, hu, hcell⟩ := Rp.sl_at (Rp.below _ H.out HB.out) hlt
      obtain ⟨rfl, hz1⟩ := site_open hu
      have c0 := hcell 0 _ rfl
      rw [Nat.add_zero] at c0
      change World.cell? _ (ad.add (k * 3)) = some (.string (bstr l[k].name)) at c0
      have c1 := hcell 1 _ rfl
      have c2 := hcell 2 _ rfl
      rw [add_fld _ _ _ (by omega)] at c1 c2
      change World.cell? _ ⟨(ad.add (k * 3)).block, (ad.add (k * 3)).off + 1, none⟩ = some (.int .i64 l[k].weight) at c1
      change World.cell? _ ⟨(ad.add (k * 3)).block, (ad.add (k * 3)).off + 2, none⟩ = some (.int .i64 l[k].room) at c2
      have HX := Lib.hid (fun h => siteIdx_hit hlt h HS.out)
      have HT : Hid (l[k].name ≠ name → ∀ j, j < k + 1 → ∀ hj : j < l.length, l[j].name ≠ name) := Lib.hid (fun h j hj hj2 => by
        by_cases e : j = k
        · subst e; exact h
        · exact HS.out j (by omega) hj2)
      have hBr : wr.cell? ⟨B, 0, none⟩ = some (.string (bstr name)) := (HB.out.cell hlt0).trans HBC.out
      clear hcell hu hadb
      generalize l[k] = x at *
      have hfn := siteFn_any x name B wr hBr
      have HHB := Lib.hid (HB.out.alloc HB.out.size (.cells (siteCells x).toArray 44))
      unfold siteCells at hfn HHB
      clear hBr
      go_wp2_with fail
      refine hfn.mono ?_
      rintro e w1 ⟨rfl, rfl⟩
      clear hfn
      by_cases hd : x.name = name
      · have HI := Lib.hid (HX.out hd)
        rw [decide_eq_true hd]
        clear hd HX HT
        go_wp2_with fail
        go_ret
        exact ⟨by rw [HI.out]; rfl, HHB.out⟩
      · have HT1 := Lib.hid (HT.out hd)
        rw [decide_eq_false hd]
        clear hd HX HT
        go_wp2_with fail
        go_roundw
        case rel => exact ⟨k + 1, by omega, by go_num, HT1, HHB⟩
        case measure => simp [intOf]; omega
    · obtain rfl : k = l.length := by omega
      have HI := Lib.hid (siteIdx_none (name := name) (fun j hj => HS.out j hj hj))
      go_wp2_with fail
      go_ret
      exact ⟨by rw [HI.out]; rfl, HB.out⟩
set_option maxRecDepth 100000 in
set_option maxHeartbeats 400000 in
theorem siteAt_any (v : Value) (l : List Site) (name : List UInt8) (w : World) (h : (Rp.sl siteRp).ok w (· < w.heap.size) [v] l) :
    Calls Tryz.prog 39 #[v, .string (bstr name)] w fun e w' => e = .returned (.int .i64 (siteIdx l name)) ∧ Below w.heap.size w w' := by
  have hal := (Below.refl w.heap.size w).alloc (Nat.le_refl _) (.cells #[.string (bstr name)] 9)
  have hc := siteIndex_any v l name w.heap.size (w.alloc (.cells #[.string (bstr name)] 9)) (Rp.ext _ h hal) ((Blk.new w 9 [.string (bstr name)]).cell 0)
  have HAL := Lib.hid hal
  clear hal h
  go_enter Tryz.func39, Tryz.ntmps39
  go_wp2_with fail
  refine hc.mono ?_
  rintro e w1 ⟨rfl, hb⟩
  have HB := Lib.hid (HAL.out.trans (hb.mono HAL.out.size))
  clear hb hc
  obtain ⟨i, hi⟩ : ∃ i, siteIdx l name = i := ⟨_, rfl⟩
  have HI := Lib.hid hi
  rw [hi]
  clear hi
  go_wp2_with fail
  go_ret
  exact ⟨by rw [HI.out]; rfl, HB.out⟩
end Go.Proofs.YtnkdcmibafjplaaGreatDoor
