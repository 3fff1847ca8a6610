/-
  ephemera/ephemeraref11.places walked.
-/
import Derived.Test.YtdeeiifcjbmmiaaGreatDoorPlD
import Derived.Test.YtdeeiifcjbmmiaaGreatDoorPInt
import Derived.Test.YtdeeiifcjbmmiaaGreatDoorInsSite
import Derived.Test.YtdeeiifcjbmmiaaGreatDoorBlkR
import Derived.Deep.RegionHeld
namespace Go.Proofs.YtdeeiifcjbmmiaaGreatDoor
open Go.RowKit
set_option linter.unusedVariables false
set_option linter.unusedSimpArgs false

theorem flat_takeP {α β : Type} {f : α → List β} {sz : Nat} (hf : ∀ a, (f a).length = sz) (l : List α) (a : Nat) (h : a ≤ l.length) : (l.flatMap f).take (a * sz) = (l.take a).flatMap f := by
  conv => lhs; rw [← List.take_append_drop a l, List.flatMap_append]
  exact List.take_left' (by rw [flat_len hf, List.length_take, Nat.min_eq_left h])
theorem flat_dropP {α β : Type} {f : α → List β} {sz : Nat} (hf : ∀ a, (f a).length = sz) (l : List α) (a : Nat) (h : a ≤ l.length) : (l.flatMap f).drop (a * sz) = (l.drop a).flatMap f := by
  conv => lhs; rw [← List.take_append_drop a l, List.flatMap_append]
  exact List.drop_left' (by rw [flat_len hf, List.length_take, Nat.min_eq_left h])
theorem insS_flat (item : List UInt8) (l : List Sb) (x : Sb) : (insS item l x).flatMap sbCells = (l.flatMap sbCells).take (insAt item x.1 l * 3) ++ [.string (bstr x.1.name), .int .i64 x.1.weight, .int .i64 x.1.room] ++ (l.flatMap sbCells).drop (insAt item x.1 l * 3) := by
  have h := insAt_le item x.1 l
  rw [flat_takeP (f := sbCells) (sz := 3) (fun _ => rfl) l _ h, flat_dropP (f := sbCells) (sz := 3) (fun _ => rfl) l _ h]
  unfold insS
  rw [List.flatMap_append, List.flatMap_cons, List.append_assoc]
  rfl
theorem insAll_len2 (item : List UInt8) (l : List Sb) : (insAll item l).length = l.length := by
  suffices ∀ (out : List Sb), (l.foldl (insS item) out).length = out.length + l.length by have := this []; simpa [insAll] using this
  induction l with
  | nil => intro out; simp
  | cons x l ih =>
    intro out
    rw [List.foldl_cons, ih]
    have h := insAt_le item x.1 out
    unfold insS
    simp
    omega
set_option maxRecDepth 100000 in
set_option maxHeartbeats 20000000 in
theorem refPlaces_any (v : Value) (l : List Site) (item : List UInt8) (many : Nat) (w : World) (h : (Rp.sl siteRp).ok w (· < w.heap.size) [v] l) (hn : ∀ x ∈ l, x.name.length ≤ 40) (hl0 : 0 < l.length) (hl : l.length ≤ 50) (hm1 : 1 ≤ many) (hm2 : many ≤ 50) (hi : item.length ≤ 1000000) :
    Calls Tryz.prog 20 #[v, .string (bstr item), .int .i64 many] w (PlPost l item many w) := by
  have hn2 : ∀ x ∈ l, x.name.length ≤ 1000 := fun x hx => by have := hn x hx; omega
  have HSL : Hid ((sbs l).length = l.length) := Lib.hid (by unfold sbs; rw [List.length_map])
  have HSV : Hid (∀ k (h1 : k < (sbs l).length) (h2 : k < l.length), ((sbs l)[k]).1 = l[k]) := Lib.hid (fun k h1 h2 => by
    have e : (sbs l)[k] = toSb l[k] := List.getElem_map toSb
    rw [e]
    exact toSb_val (hn2 _ (List.getElem_mem h2)))
  have H := Lib.hid h
  obtain ⟨Ah, ch, rfl, hlc, hcm, _⟩ := Rp.sl_open h
  unfold maxLen at hcm
  clear h hn hn2
  go_enter Tryz.func20, Tryz.ntmps20
  go_wp2_with fail
  go_loopw [7, 16] (fun vr vk wr => ∃ k : Nat, k ≤ l.length ∧ vk = .int .i64 k ∧ Hid (wr.ownsRow w.heap.size 48 3 vr k ((insAll item ((sbs l).take k)).flatMap sbCells)) ∧ Hid (Below w.heap.size w wr)) (fun _ vk _ => l.length - (intOf vk).toNat)
  case atStart => exact ⟨0, Nat.zero_le _, rfl, Lib.hid (World.ownsRow_nil _ _ _ _), Below.refl _ _⟩
  case round =>
    obtain ⟨k, hk, rfl, HO, HB⟩ := hrel
    by_cases hkl : k < l.length
    · obtain ⟨ad, c0, hv, _, q0, q1, q2, _⟩ := site_at (Rp.below _ H.out HB.out) hkl
      injection hv with hv _ hc0
      subst hv
      subst hc0
      have hks : k < (sbs l).length := by rw [HSL.out]; exact hkl
      have HSX := Lib.hid (List.take_succ_eq_append_getElem hks)
      rw [← HSV.out k hks hkl] at q0 q1 q2
      obtain ⟨x, hx⟩ : ∃ x, (sbs l)[k] = x := ⟨_, rfl⟩
      rw [hx] at q0 q1 q2 HSX
      obtain ⟨out, hout⟩ : ∃ out, insAll item ((sbs l).take k) = out := ⟨_, rfl⟩
      have HOUT := Lib.hid hout
      have HOL : Hid (out.length = k) := Lib.hid (by rw [← hout, insAll_len2, List.length_take, HSL.out]; omega)
      rw [hout] at HO
      clear hx hout
      have HBA := Lib.hid (HB.out.alloc HB.out.size (.cells #[.string (bstr x.1.name), .int .i64 x.1.weight, .int .i64 x.1.room] 48))
      have HOA := Lib.hid (HO.out.alloc (.cells #[.string (bstr x.1.name), .int .i64 x.1.weight, .int .i64 x.1.room] 48))
      have HKX : Hid (Blk (wr.alloc (.cells #[.string (bstr x.1.name), .int .i64 x.1.weight, .int .i64 x.1.room] 48)) wr.heap.size 48 [.string (bstr x.1.name), .int .i64 x.1.weight, .int .i64 x.1.room]) := Lib.hid (Blk.new wr _ _)
      obtain ⟨A7, c7, hv7, hlc7, hcm7, _⟩ := own_form HO.out
      subst hv7
      unfold maxLen at hcm7
      clear HO HB
      go_wp2_with fail
      obtain ⟨vr, hvr⟩ : ∃ vr, vr = Value.slice A7 k c7 := ⟨_, rfl⟩
      rw [← hvr] at HOA ⊢
      clear hvr q0 q1 q2
      generalize wr.alloc (.cells #[.string (bstr x.1.name), .int .i64 x.1.weight, .int .i64 x.1.room] 48) = wa at *
      generalize wr.heap.size = bx at *
      go_loopw [10] (fun va wq => ∃ a : Nat, a ≤ k ∧ va = .int .i64 a ∧ Hid (∀ j (h : j < out.length), a ≤ j → keyS item out[j].1 < keyS item x.1) ∧ Hid (Below wa.heap.size wa wq)) (fun va _ => (intOf va).toNat)
      case atStart => exact ⟨k, Nat.le_refl _, rfl, Lib.hid (fun j h hj => by have := HOL.out; omega), Below.refl _ _⟩
      case round =>
        obtain ⟨a, ha, rfl, HJ, HBZ⟩ := hrel
        by_cases ha0 : a = 0
        · subst ha0
          go_wp2_with fail
          refine wp_region_held_drew (S := fun _ => True) (by kernel_rfl) trivial (fun hHeld => ?_)
          have HBD := Lib.hid (below_drewN HBZ.out 1)
          obtain ⟨wq, hwq⟩ : ∃ wq, wq = World.drew wr := ⟨_, rfl⟩
          have HBZ : Hid (Below wa.heap.size wa wq) := Lib.hid (by rw [hwq]; exact HBD.out)
          rw [← hwq]
          clear hwq HBD
          refine wpAnyH_take (i := 0) (v := ?_) rfl (by kernel_rfl) (by kernel_rfl) (by kernel_rfl) (fun _ _ _ h => h) (Or.inl ⟨by rfl, ?_⟩) (by assumption) ?_
          rotate_left
          · (intro w hSw; (try dsimp only at hSw); go_simp; try with_reducible rfl)
          try simp only [List.getElem_toArray, List.getElem_cons_succ, List.getElem_cons_zero, Act.put, List.setIfInBounds_toArray, List.set_cons_zero, List.set_cons_succ]
          refine wpAnyH_take (i := 1) (v := ?_) rfl (by kernel_rfl) (by kernel_rfl) (by kernel_rfl) (fun _ _ _ h => h) (Or.inl ⟨by rfl, ?_⟩) (by assumption) ?_
          rotate_left
          · (intro w hSw; (try dsimp only at hSw); go_simp; try with_reducible rfl)
          try simp only [List.getElem_toArray, List.getElem_cons_succ, List.getElem_cons_zero, Act.put, List.setIfInBounds_toArray, List.set_cons_zero, List.set_cons_succ]
          refine wpAnyH_take (i := 2) (v := ?_) rfl (by kernel_rfl) (by kernel_rfl) (by kernel_rfl) (fun _ _ _ h => h) (Or.inl ⟨by rfl, ?_⟩) (by assumption) ?_
          rotate_left
          · (intro w hSw; (try dsimp only at hSw); go_simp; try with_reducible rfl)
          try simp only [List.getElem_toArray, List.getElem_cons_succ, List.getElem_cons_zero, Act.put, List.setIfInBounds_toArray, List.set_cons_zero, List.set_cons_succ]
          refine wpAnyH_take (i := 3) (v := undef) rfl (by kernel_rfl) (by kernel_rfl) (by kernel_rfl) (fun _ _ _ h => h) (Or.inr ⟨by rfl, rfl⟩) (by assumption) ?_
          try simp only [List.getElem_toArray, List.getElem_cons_succ, List.getElem_cons_zero, Act.put, List.setIfInBounds_toArray, List.set_cons_zero, List.set_cons_succ]
          refine wpAnyH_take (i := 4) (v := undef) rfl (by kernel_rfl) (by kernel_rfl) (by kernel_rfl) (fun _ _ _ h => h) (Or.inr ⟨by rfl, rfl⟩) (by assumption) ?_
          try simp only [List.getElem_toArray, List.getElem_cons_succ, List.getElem_cons_zero, Act.put, List.setIfInBounds_toArray, List.set_cons_zero, List.set_cons_succ]
          refine wpAnyH_take (i := 5) (v := undef) rfl (by kernel_rfl) (by kernel_rfl) (by kernel_rfl) (fun _ _ _ h => h) (Or.inr ⟨by rfl, rfl⟩) (by assumption) ?_
          try simp only [List.getElem_toArray, List.getElem_cons_succ, List.getElem_cons_zero, Act.put, List.setIfInBounds_toArray, List.set_cons_zero, List.set_cons_succ]
          refine wpAnyH_take (i := 6) (v := undef) rfl (by kernel_rfl) (by kernel_rfl) (by kernel_rfl) (fun _ _ _ h => h) (Or.inr ⟨by rfl, rfl⟩) (by assumption) ?_
          try simp only [List.getElem_toArray, List.getElem_cons_succ, List.getElem_cons_zero, Act.put, List.setIfInBounds_toArray, List.set_cons_zero, List.set_cons_succ]
          refine wpAnyH_take (i := 7) (v := undef) rfl (by kernel_rfl) (by kernel_rfl) (by kernel_rfl) (fun _ _ _ h => h) (Or.inr ⟨by rfl, rfl⟩) (by assumption) ?_
          try simp only [List.getElem_toArray, List.getElem_cons_succ, List.getElem_cons_zero, Act.put, List.setIfInBounds_toArray, List.set_cons_zero, List.set_cons_succ]
          refine wpAnyH_take (i := 8) (v := undef) rfl (by kernel_rfl) (by kernel_rfl) (by kernel_rfl) (fun _ _ _ h => h) (Or.inr ⟨by rfl, rfl⟩) (by assumption) ?_
          try simp only [List.getElem_toArray, List.getElem_cons_succ, List.getElem_cons_zero, Act.put, List.setIfInBounds_toArray, List.set_cons_zero, List.set_cons_succ]
          refine wpAnyH_take (i := 9) (v := undef) rfl (by kernel_rfl) (by kernel_rfl) (by kernel_rfl) (fun _ _ _ h => h) (Or.inr ⟨by rfl, rfl⟩) (by assumption) ?_
          try simp only [List.getElem_toArray, List.getElem_cons_succ, List.getElem_cons_zero, Act.put, List.setIfInBounds_toArray, List.set_cons_zero, List.set_cons_succ]
          refine wpAnyH_take (i := 10) (v := undef) rfl (by kernel_rfl) (by kernel_rfl) (by kernel_rfl) (fun _ _ _ h => h) (Or.inr ⟨by rfl, rfl⟩) (by assumption) ?_
          try simp only [List.getElem_toArray, List.getElem_cons_succ, List.getElem_cons_zero, Act.put, List.setIfInBounds_toArray, List.set_cons_zero, List.set_cons_succ]
          refine wpAnyH_take (i := 11) (v := undef) rfl (by kernel_rfl) (by kernel_rfl) (by kernel_rfl) (fun _ _ _ h => h) (Or.inr ⟨by rfl, rfl⟩) (by assumption) ?_
          try simp only [List.getElem_toArray, List.getElem_cons_succ, List.getElem_cons_zero, Act.put, List.setIfInBounds_toArray, List.set_cons_zero, List.set_cons_succ]
          refine wpAnyH_take (i := 12) (v := undef) rfl (by kernel_rfl) (by kernel_rfl) (by kernel_rfl) (fun _ _ _ h => h) (Or.inr ⟨by rfl, rfl⟩) (by assumption) ?_
          try simp only [List.getElem_toArray, List.getElem_cons_succ, List.getElem_cons_zero, Act.put, List.setIfInBounds_toArray, List.set_cons_zero, List.set_cons_succ]
          refine wpAnyH_take (i := 13) (v := undef) rfl (by kernel_rfl) (by kernel_rfl) (by kernel_rfl) (fun _ _ _ h => h) (Or.inr ⟨by rfl, rfl⟩) (by assumption) ?_
          try simp only [List.getElem_toArray, List.getElem_cons_succ, List.getElem_cons_zero, Act.put, List.setIfInBounds_toArray, List.set_cons_zero, List.set_cons_succ]
          refine wpAnyH_take (i := 14) (v := ?_) rfl (by kernel_rfl) (by kernel_rfl) (by kernel_rfl) (fun _ _ _ h => h) (Or.inl ⟨by rfl, ?_⟩) (by assumption) ?_
          rotate_left
          · (intro w hSw; (try dsimp only at hSw); go_simp; try with_reducible rfl)
          try simp only [List.getElem_toArray, List.getElem_cons_succ, List.getElem_cons_zero, Act.put, List.setIfInBounds_toArray, List.set_cons_zero, List.set_cons_succ]
          refine wpAnyH_done (by kernel_rfl) ?_ _
          clear hHeld
          have HA : Hid (insAt item x.1 out = 0) := Lib.hid (insAt_is (by omega) (HJ.out) (fun h => absurd h (by omega)))
          have HOZ := Lib.hid (own_blwP HOA.out HBZ.out)
          have hkx := HKX.out.same (same_below HBZ.out) HKX.out.lt
          have x0 : _ = some (Value.string (bstr x.1.name)) := hkx.cell 0
          have x1 : _ = some (Value.int .i64 x.1.weight) := hkx.cell 1
          have x2 : _ = some (Value.int .i64 x.1.room) := hkx.cell 2
          have HBW := Lib.hid (below_tr2 HBA.out HBZ.out HBA.out.size)
          have hnb : some wq.heap.size ≠ vr.ownBlock := fun e => by have h := (HOZ.out.lt _ e.symm).2; omega
          have hins := insSite_any vr k 0 w.heap.size wq.heap.size (out.flatMap sbCells) [.string (bstr x.1.name), .int .i64 x.1.weight, .int .i64 x.1.room] (wq.alloc (.cells #[.string (bstr x.1.name), .int .i64 x.1.weight, .int .i64 x.1.room] 48)) (HOZ.out.alloc _) (Nat.le_trans HBW.out.size (by rw [World.size_alloc]; omega)) (by omega) (by omega) rfl (by simp [Value.oneCell']) (fun u hu => by obtain ⟨z, _, hz⟩ := List.mem_flatMap.1 hu; simp [sbCells, siteCells] at hz; rcases hz with rfl | rfl | rfl <;> rfl) (Blk.new wq _ _) hnb
          have HINS := Lib.hid hins
          clear hnb hins hkx
          go_wp2_with fail
          refine HINS.out.mono ?_
          rintro e w9 ⟨g9, c9, rfl, hO9, hg9, _⟩
          have HO9 : Hid (w9.ownsRow w.heap.size 48 3 (.slice (some ⟨g9, 0, none⟩) (k + 1) c9) (k + 1) ((insAll item ((sbs l).take (k + 1))).flatMap sbCells)) := Lib.hid (by
            rw [HSX.out, insAll_snoc, HOUT.out, insS_flat, HA.out]; exact hO9)
          have HB9 := Lib.hid ((HBW.out.alloc HBW.out.size (.cells #[.string (bstr x.1.name), .int .i64 x.1.weight, .int .i64 x.1.room] 48)).grown hg9 (Nat.le_trans HBW.out.size (by rw [World.size_alloc]; omega)) (fun j e => (HOZ.out.lt j e).1))
          clear hO9 hg9 HINS HOZ HBW x0 x1 x2 HA HBZ
          go_wp2_with fail
          go_roundw
          case rel => exact ⟨k + 1, by omega, by go_num, HO9, HB9⟩
          case measure => simp [intOf]; omega
        · obtain ⟨b, rfl⟩ : ∃ b, a = b + 1 := ⟨a - 1, by omega⟩
          have hbl : b < out.length := by rw [HOL.out]; omega
          have hrow := own_blwP HOA.out HBZ.out
          have hkx := HKX.out.same (same_below HBZ.out) HKX.out.lt
          have hvr := own_form hrow
          obtain ⟨A, c, rfl, hc1, hc2, _⟩ := hvr
          unfold maxLen at hc2
          obtain ⟨g, rfl⟩ : ∃ g, A = some ⟨g, 0, none⟩ := by
            rcases hrow.2 with ⟨_, h⟩ | ⟨g, cap, cur, e1, _⟩
            · omega
            · injection e1 with e1 _ _
              exact ⟨g, e1⟩
          have hcell : ∀ j (hj : j < 3), wr.cell? ⟨g, b * 3 + j, none⟩ = (sbCells out[b])[j]? := by
            intro j hj
            have hfl := flat_at (f := sbCells) (sz := 3) (fun _ => rfl) out b hbl
            have h1 : (out.flatMap sbCells)[b * 3 + j]? = (sbCells out[b])[j]? := by
              rw [← hfl, List.getElem?_take_of_lt hj, List.getElem?_drop]
            rw [← h1]
            have hlt : b * 3 + j < (out.flatMap sbCells).length := by rw [sb_flat_len]; omega
            have h2 := hrow.cells (g := g) rfl (b * 3 + j) _ (List.getElem?_eq_getElem hlt)
            rw [show (⟨g, 0, none⟩ : Addr).add (b * 3 + j) = ⟨g, b * 3 + j, none⟩ from by unfold Addr.add; split <;> simp_all] at h2
            rw [h2, List.getElem?_eq_getElem hlt]
          have hgl := (hrow.lt g rfl).2
          have HJB : Hid (∀ h : 0 < b + 1, ¬ keyS item (out[b]).1 < keyS item x.1 → ¬ keyS item (out[b + 1 - 1]'(by omega)).1 < keyS item x.1) := Lib.hid (fun _ h => h)
          have HJN : Hid (keyS item out[b].1 < keyS item x.1 → ∀ j (h : j < out.length), b ≤ j → keyS item out[j].1 < keyS item x.1) := Lib.hid (fun h1 j h hj => by
            by_cases e : j = b
            · subst e; exact h1
            · exact HJ.out j h (by omega))
          obtain ⟨y, hy⟩ : ∃ y, out[b] = y := ⟨_, rfl⟩
          rw [hy] at hcell HJN HJB
          clear hy
          have KEEP : Hid (∀ w', Below wr.heap.size wr w' → (w'.cell? ⟨bx, 0, none⟩ = some (.string (bstr x.1.name)) ∧ w'.cell? ⟨bx, 1, none⟩ = some (.int .i64 x.1.weight) ∧ w'.cell? ⟨bx, 2, none⟩ = some (.int .i64 x.1.room)) ∧ w'.cell? ⟨g, b * 3, none⟩ = some (.string (bstr y.1.name)) ∧ w'.cell? ⟨g, b * 3 + 1, none⟩ = some (.int .i64 y.1.weight) ∧ w'.cell? ⟨g, b * 3 + 2, none⟩ = some (.int .i64 y.1.room)) := Lib.hid (fun w' h => ⟨⟨(hkx.same (same_below h) hkx.lt).cell 0, (hkx.same (same_below h) hkx.lt).cell 1, (hkx.same (same_below h) hkx.lt).cell 2⟩, ((same_below h).cell (a := ⟨g, b * 3, none⟩) hgl).trans (hcell 0 (by decide)), ((same_below h).cell (a := ⟨g, b * 3 + 1, none⟩) hgl).trans (hcell 1 (by decide)), ((same_below h).cell (a := ⟨g, b * 3 + 2, none⟩) hgl).trans (hcell 2 (by decide))⟩)
          clear hcell hkx hrow hgl
          have d0 : (0 : Int) < (b : Int) + 1 := by omega
          have d1 : IntKind.i64.wrap ((b : Int) + 1 - 1) = (b : Int) := by rw [Int.add_sub_cancel]; exact IntWalk.i64_in _ (by omega)
          have d1b : IntKind.i64.wrap (b : Int) = (b : Int) := IntWalk.i64_in _ (by omega)
          have d0b : (0 : Int) ≤ (b : Int) := by omega
          have d2 : (b : Int) < (k : Int) := by omega
          go_wp2_with fail
          refine wp_region_held_drew (S := fun w' => (w'.cell? ⟨bx, 0, none⟩ = some (.string (bstr x.1.name)) ∧ w'.cell? ⟨bx, 1, none⟩ = some (.int .i64 x.1.weight) ∧ w'.cell? ⟨bx, 2, none⟩ = some (.int .i64 x.1.room)) ∧ w'.cell? ⟨g, b * 3, none⟩ = some (.string (bstr y.1.name)) ∧ w'.cell? ⟨g, b * 3 + 1, none⟩ = some (.int .i64 y.1.weight) ∧ w'.cell? ⟨g, b * 3 + 2, none⟩ = some (.int .i64 y.1.room)) (by kernel_rfl) (KEEP.out _ (Below.drew (Below.refl _ _))) (fun hHeld => ?_)
          obtain ⟨wq, hwq⟩ : ∃ wq, wq = World.drew wr := ⟨_, rfl⟩
          have HGq : Hid (Below wr.heap.size wr wq) := Lib.hid (by rw [hwq]; exact Below.drew (Below.refl _ _))
          rw [← hwq] at hHeld ⊢
          clear hwq
          refine wpAnyH_take (i := 0) (v := ?_) rfl (by kernel_rfl) (by kernel_rfl) (by kernel_rfl) (fun _ _ _ h => h) (Or.inl ⟨by rfl, ?_⟩) (by assumption) ?_
          rotate_left
          · (intro w hSw; (try dsimp only at hSw); go_simp; try with_reducible rfl)
          try simp only [List.getElem_toArray, List.getElem_cons_succ, List.getElem_cons_zero, Act.put, List.setIfInBounds_toArray, List.set_cons_zero, List.set_cons_succ]
          refine wpAnyH_take (i := 1) (v := ?_) rfl (by kernel_rfl) (by kernel_rfl) (by kernel_rfl) (fun _ _ _ h => h) (Or.inl ⟨by rfl, ?_⟩) (by assumption) ?_
          rotate_left
          · (intro w hSw; (try dsimp only at hSw); go_simp; try with_reducible rfl)
          try simp only [List.getElem_toArray, List.getElem_cons_succ, List.getElem_cons_zero, Act.put, List.setIfInBounds_toArray, List.set_cons_zero, List.set_cons_succ]
          refine wpAnyH_take (i := 2) (v := ?_) rfl (by kernel_rfl) (by kernel_rfl) (by kernel_rfl) (fun _ _ _ h => h) (Or.inl ⟨by rfl, ?_⟩) (by assumption) ?_
          rotate_left
          · (intro w hSw; (try dsimp only at hSw); go_simp; try with_reducible rfl)
          try simp only [List.getElem_toArray, List.getElem_cons_succ, List.getElem_cons_zero, Act.put, List.setIfInBounds_toArray, List.set_cons_zero, List.set_cons_succ]
          refine wpAnyH_take (i := 3) (v := ?_) rfl (by kernel_rfl) (by kernel_rfl) (by kernel_rfl) (fun _ _ _ h => h) (Or.inl ⟨by rfl, ?_⟩) (by assumption) ?_
          rotate_left
          · (intro w hSw; (try dsimp only at hSw); go_simp; try with_reducible rfl)
          try simp only [List.getElem_toArray, List.getElem_cons_succ, List.getElem_cons_zero, Act.put, List.setIfInBounds_toArray, List.set_cons_zero, List.set_cons_succ]
          refine wpAnyH_take (i := 4) (v := ?_) rfl (by kernel_rfl) (by kernel_rfl) (by kernel_rfl) (fun _ _ _ h => h) (Or.inl ⟨by rfl, ?_⟩) (by assumption) ?_
          rotate_left
          · (intro w hSw; (try dsimp only at hSw); go_simp; try with_reducible rfl)
          try simp only [List.getElem_toArray, List.getElem_cons_succ, List.getElem_cons_zero, Act.put, List.setIfInBounds_toArray, List.set_cons_zero, List.set_cons_succ]
          refine wpAnyH_take (i := 6) (v := ?_) rfl (by kernel_rfl) (by kernel_rfl) (by kernel_rfl) (fun _ _ _ h => h) (Or.inl ⟨by rfl, ?_⟩) (by assumption) ?_
          rotate_left
          · (intro w hSw; (try dsimp only at hSw); go_simp; try with_reducible rfl)
          try simp only [List.getElem_toArray, List.getElem_cons_succ, List.getElem_cons_zero, Act.put, List.setIfInBounds_toArray, List.set_cons_zero, List.set_cons_succ]
          refine wpAnyH_take (i := 7) (v := ?_) rfl (by kernel_rfl) (by kernel_rfl) (by kernel_rfl) (fun _ _ _ h => h) (Or.inl ⟨by rfl, ?_⟩) (by assumption) ?_
          rotate_left
          · (intro w hSw; (try dsimp only at hSw); go_simp; try with_reducible rfl)
          try simp only [List.getElem_toArray, List.getElem_cons_succ, List.getElem_cons_zero, Act.put, List.setIfInBounds_toArray, List.set_cons_zero, List.set_cons_succ]
          refine wpAnyH_take (i := 8) (v := ?_) rfl (by kernel_rfl) (by kernel_rfl) (by kernel_rfl) (fun _ _ _ h => h) (Or.inl ⟨by rfl, ?_⟩) (by assumption) ?_
          rotate_left
          · (intro w hSw; (try dsimp only at hSw); go_simp; try with_reducible rfl)
          try simp only [List.getElem_toArray, List.getElem_cons_succ, List.getElem_cons_zero, Act.put, List.setIfInBounds_toArray, List.set_cons_zero, List.set_cons_succ]
          refine wpAnyH_take (i := 9) (v := ?_) rfl (by kernel_rfl) (by kernel_rfl) (by kernel_rfl) (fun _ _ _ h => h) (Or.inl ⟨by rfl, ?_⟩) (by assumption) ?_
          rotate_left
          · (intro w hSw; (try dsimp only at hSw); go_simp; try with_reducible rfl)
          try simp only [List.getElem_toArray, List.getElem_cons_succ, List.getElem_cons_zero, Act.put, List.setIfInBounds_toArray, List.set_cons_zero, List.set_cons_succ]
          refine wpAnyH_take (i := 10) (v := ?_) rfl (by kernel_rfl) (by kernel_rfl) (by kernel_rfl) (fun _ _ _ h => h) (Or.inl ⟨by rfl, ?_⟩) (by assumption) ?_
          rotate_left
          · (intro w hSw; (try dsimp only at hSw); go_simp; try with_reducible rfl)
          try simp only [List.getElem_toArray, List.getElem_cons_succ, List.getElem_cons_zero, Act.put, List.setIfInBounds_toArray, List.set_cons_zero, List.set_cons_succ]
          refine wpAnyH_take (i := 11) (v := ?_) rfl (by kernel_rfl) (by kernel_rfl) (by kernel_rfl) (fun _ _ _ h => h) (Or.inl ⟨by rfl, ?_⟩) (by assumption) ?_
          rotate_left
          · (intro w hSw; (try dsimp only at hSw); go_simp; try with_reducible rfl)
          try simp only [List.getElem_toArray, List.getElem_cons_succ, List.getElem_cons_zero, Act.put, List.setIfInBounds_toArray, List.set_cons_zero, List.set_cons_succ]
          refine wpAnyH_ready (rs := [5]) (by kernel_rfl) (by simp) ?_
          refine AllReadyH.cons rfl (fun K hK => ?_) AllReadyH.nil
          rw [if_pos (by rfl)]
          simp only [List.getElem_toArray, List.getElem_cons_succ, List.getElem_cons_zero]
          go_simp
          go_at_call 39
          refine (refScore_any x.1 item wq x.2 hi).mono ?_
          rintro e w5 ⟨rfl, hw⟩
          have HG5 : Hid (Below wr.heap.size wr w5) := Lib.hid (HGq.out.trans (hw.mono HGq.out.size))
          clear hw
          show K _ w5
          refine hK.out _ _ (KEEP.out _ HG5.out) (fun hHeld => ?_)
          clear hK K
          try simp only [List.getElem_toArray, List.getElem_cons_succ, List.getElem_cons_zero, Act.put, List.setIfInBounds_toArray, List.set_cons_zero, List.set_cons_succ]
          refine wpAnyH_ready (rs := [12]) (by kernel_rfl) (by simp) ?_
          refine AllReadyH.cons rfl (fun K hK => ?_) AllReadyH.nil
          rw [if_pos (by rfl)]
          simp only [List.getElem_toArray, List.getElem_cons_succ, List.getElem_cons_zero]
          go_simp
          go_at_call 39
          refine (refScore_any y.1 item w5 y.2 hi).mono ?_
          rintro e w6 ⟨rfl, hw⟩
          have HG6 : Hid (Below wr.heap.size wr w6) := Lib.hid (HG5.out.trans (hw.mono HG5.out.size))
          clear hw
          show K _ w6
          refine hK.out _ _ (KEEP.out _ HG6.out) (fun hHeld => ?_)
          clear hK K
          try simp only [List.getElem_toArray, List.getElem_cons_succ, List.getElem_cons_zero, Act.put, List.setIfInBounds_toArray, List.set_cons_zero, List.set_cons_succ]
          refine wpAnyH_take (i := 13) (v := ?_) rfl (by kernel_rfl) (by kernel_rfl) (by kernel_rfl) (fun _ _ _ h => h) (Or.inl ⟨by rfl, ?_⟩) (by assumption) ?_
          rotate_left
          · (intro w hSw; (try dsimp only at hSw); go_simp; try with_reducible rfl)
          try simp only [List.getElem_toArray, List.getElem_cons_succ, List.getElem_cons_zero, Act.put, List.setIfInBounds_toArray, List.set_cons_zero, List.set_cons_succ]
          refine wpAnyH_take (i := 14) (v := ?_) rfl (by kernel_rfl) (by kernel_rfl) (by kernel_rfl) (fun _ _ _ h => h) (Or.inl ⟨by rfl, ?_⟩) (by assumption) ?_
          rotate_left
          · (intro w hSw; (try dsimp only at hSw); go_simp; try with_reducible rfl)
          try simp only [List.getElem_toArray, List.getElem_cons_succ, List.getElem_cons_zero, Act.put, List.setIfInBounds_toArray, List.set_cons_zero, List.set_cons_succ]
          refine wpAnyH_done (by kernel_rfl) ?_ _
          clear hHeld KEEP HGq HG5
          have HBZ6 := Lib.hid (below_tr2 HBZ.out HG6.out HBZ.out.size)
          obtain ⟨vr, hvr⟩ : ∃ vr, vr = Value.slice (some ⟨g, 0, none⟩) k c := ⟨_, rfl⟩
          rw [← hvr] at HOA ⊢
          by_cases hlt : keyS item y.1 < keyS item x.1
          · have hd : decide (keyS item y.1 < keyS item x.1) = true := decide_eq_true hlt
            have HJ2 := Lib.hid (HJN.out hlt)
            clear hlt HJ HJN HJB HG6 HBZ
            subst hvr
            rw [hd]
            go_wp2_with fail
            go_roundw
            case rel => exact ⟨b, by omega, by go_num, HJ2, HBZ6⟩
            case measure => simp [intOf]
          · have hd : decide (keyS item y.1 < keyS item x.1) = false := decide_eq_false hlt
            have HNB := Lib.hid (HJB.out (by omega) (by omega))
            have HBZ := HBZ6
            clear hlt HJN HJB HG6 HBZ6
            rw [hd]
            have HA : Hid (insAt item x.1 out = (b + 1)) := Lib.hid (insAt_is (by omega) (HJ.out) (fun _ => by have := HNB.out; omega))
            have HOZ := Lib.hid (own_blwP HOA.out HBZ.out)
            have hkx := HKX.out.same (same_below HBZ.out) HKX.out.lt
            have x0 : _ = some (Value.string (bstr x.1.name)) := hkx.cell 0
            have x1 : _ = some (Value.int .i64 x.1.weight) := hkx.cell 1
            have x2 : _ = some (Value.int .i64 x.1.room) := hkx.cell 2
            have HBW := Lib.hid (below_tr2 HBA.out HBZ.out HBA.out.size)
            have hnb : some w6.heap.size ≠ vr.ownBlock := fun e => by have h := (HOZ.out.lt _ e.symm).2; omega
            have hins := insSite_any vr k (b + 1) w.heap.size w6.heap.size (out.flatMap sbCells) [.string (bstr x.1.name), .int .i64 x.1.weight, .int .i64 x.1.room] (w6.alloc (.cells #[.string (bstr x.1.name), .int .i64 x.1.weight, .int .i64 x.1.room] 48)) (HOZ.out.alloc _) (Nat.le_trans HBW.out.size (by rw [World.size_alloc]; omega)) (by omega) (by omega) rfl (by simp [Value.oneCell']) (fun u hu => by obtain ⟨z, _, hz⟩ := List.mem_flatMap.1 hu; simp [sbCells, siteCells] at hz; rcases hz with rfl | rfl | rfl <;> rfl) (Blk.new w6 _ _) hnb
            rw [show (((b + 1 : Nat)) : Int) = (b : Int) + 1 from by omega, hvr] at hins
            rw [hvr] at HOZ
            have HINS := Lib.hid hins
            clear hnb hins hkx
            go_wp2_with fail
            refine HINS.out.mono ?_
            rintro e w9 ⟨g9, c9, rfl, hO9, hg9, _⟩
            have HO9 : Hid (w9.ownsRow w.heap.size 48 3 (.slice (some ⟨g9, 0, none⟩) (k + 1) c9) (k + 1) ((insAll item ((sbs l).take (k + 1))).flatMap sbCells)) := Lib.hid (by
              rw [HSX.out, insAll_snoc, HOUT.out, insS_flat, HA.out]; exact hO9)
            have HB9 := Lib.hid ((HBW.out.alloc HBW.out.size (.cells #[.string (bstr x.1.name), .int .i64 x.1.weight, .int .i64 x.1.room] 48)).grown hg9 (Nat.le_trans HBW.out.size (by rw [World.size_alloc]; omega)) (fun j e => (HOZ.out.lt j e).1))
            clear hO9 hg9 HINS HOZ HBW x0 x1 x2 HA HBZ
            go_wp2_with fail
            go_roundw
            case rel => exact ⟨k + 1, by omega, by go_num, HO9, HB9⟩
            case measure => simp [intOf]; omega
    · obtain rfl : k = l.length := by omega
      obtain ⟨wb, hwb⟩ : ∃ wb, wb = wr := ⟨_, rfl⟩
      subst hwb
      have HT0 : Hid ((sbs l).take l.length = sbs l) := Lib.hid (List.take_of_length_le (by rw [HSL.out]; exact Nat.le_refl _))
      rw [HT0.out] at HO
      have hlen := insAll_len2 item (sbs l)
      rw [HSL.out] at hlen
      have HPL : Hid (plL l item many = ((insAll item (sbs l)).take many).map (·.1.name)) := Lib.hid rfl
      generalize insAll item (sbs l) = out at *
      have HLEN := Lib.hid hlen
      clear hlen HT0 HSL HSV H
      have hform := own_form HO.out
      obtain ⟨A7, c7, hv7, hlc7, hcm7, hgb⟩ := hform
      subst hv7
      unfold maxLen at hcm7
      obtain ⟨g, rfl⟩ : ∃ g, A7 = some ⟨g, 0, none⟩ := by
        rcases HO.out.2 with ⟨_, h⟩ | ⟨g, cap, cur, e1, _⟩
        · omega
        · injection e1 with e1 _ _
          exact ⟨g, e1⟩
      obtain ⟨m, hm⟩ : ∃ m, m = min many l.length := ⟨_, rfl⟩
      have hmI : min (many : Int) (l.length : Int) = (m : Int) := by omega
      have hml : m ≤ l.length := by omega
      have hm50 : m ≤ 50 := by omega
      have hmc : (m : Int) ≤ (c7 : Int) := by omega
      have HPT : Hid (plL l item many = (out.take m).map (·.1.name)) := Lib.hid (by
        rw [HPL.out, hm]
        congr 1
        by_cases h : many ≤ l.length
        · rw [Nat.min_eq_left h]
        · rw [Nat.min_eq_right (by omega), List.take_of_length_le (by rw [HLEN.out]; omega), List.take_of_length_le (by rw [HLEN.out]; exact Nat.le_refl _)])
      clear hm HPL hgb hl0
      go_wp2_with fail
      go_loopw [11, 52] (fun vo vk ws => ∃ k : Nat, k ≤ m ∧ vk = .int .i64 k ∧ Hid (ws.ownsRow wb.heap.size 9 1 vo k ((out.take k).map fun x => .string (bstr x.1.name))) ∧ Hid (Below wb.heap.size wb ws)) (fun _ vk _ => m - (intOf vk).toNat)
      case atStart => exact ⟨0, Nat.zero_le _, rfl, Lib.hid (World.ownsRow_nil _ _ _ _), Below.refl _ _⟩
      case round =>
        obtain ⟨k, hk, rfl, HOS, HBS⟩ := hrel
        by_cases hkm : k < m
        · have hkl : k < out.length := by rw [HLEN.out]; omega
          have hrow := own_blwP HO.out HBS.out
          have hcell : ∀ j (hj : j < 3), wr.cell? ⟨g, k * 3 + j, none⟩ = (sbCells out[k])[j]? := by
            intro j hj
            have hfl := flat_at (f := sbCells) (sz := 3) (fun _ => rfl) out k hkl
            have h1 : (out.flatMap sbCells)[k * 3 + j]? = (sbCells out[k])[j]? := by
              rw [← hfl, List.getElem?_take_of_lt hj, List.getElem?_drop]
            rw [← h1]
            have hlt : k * 3 + j < (out.flatMap sbCells).length := by rw [sb_flat_len]; omega
            have h2 := hrow.cells (g := g) rfl (k * 3 + j) _ (List.getElem?_eq_getElem hlt)
            rw [show (⟨g, 0, none⟩ : Addr).add (k * 3 + j) = ⟨g, k * 3 + j, none⟩ from by unfold Addr.add; split <;> simp_all] at h2
            rw [h2, List.getElem?_eq_getElem hlt]
          have HT := Lib.hid (List.take_succ_eq_append_getElem hkl)
          obtain ⟨x, hx⟩ : ∃ x, out[k] = x := ⟨_, rfl⟩
          rw [hx] at hcell HT
          have q0 : wr.cell? ⟨g, k * 3, none⟩ = some (.string (bstr x.1.name)) := hcell 0 (by decide)
          have q1 : wr.cell? ⟨g, k * 3 + 1, none⟩ = some (.int .i64 x.1.weight) := hcell 1 (by decide)
          have q2 : wr.cell? ⟨g, k * 3 + 2, none⟩ = some (.int .i64 x.1.room) := hcell 2 (by decide)
          have HBA := Lib.hid (HBS.out.alloc HBS.out.size (.cells #[.string (bstr x.1.name), .int .i64 x.1.weight, .int .i64 x.1.room] 48))
          have HOA := Lib.hid (HOS.out.alloc (.cells #[.string (bstr x.1.name), .int .i64 x.1.weight, .int .i64 x.1.room] 48))
          have hbz := HBA.out.size
          have HKX : Hid (Blk (wr.alloc (.cells #[.string (bstr x.1.name), .int .i64 x.1.weight, .int .i64 x.1.room] 48)) wr.heap.size 48 [.string (bstr x.1.name), .int .i64 x.1.weight, .int .i64 x.1.room]) := Lib.hid (Blk.new wr _ _)
          have r0 : _ = some (Value.string (bstr x.1.name)) := HKX.out.cell 0
          clear hcell hrow hx HOS HBS
          go_wp2_with (at_builtin; refine app_new (w := wr.alloc (.cells #[.string (bstr x.1.name), .int .i64 x.1.weight, .int .i64 x.1.room] 48)) rfl (.tmp 56) (.tmp 59) 23 rfl 9 (.string (bstr [])) 1 16 Tryz.underlying23 string_infoP rfl (by decide) _ HOA.out hbz rfl (by rw [World.size_alloc]; rfl) rfl (by decide) (by simp [Value.oneCell']) (by unfold maxLen; omega) (by omega) ?_; intro g4 c4 w4 HB4 HG4 HD4 HL4)
          have HO5 : Hid (w4.ownsRow wb.heap.size 9 1 (.slice (some ⟨g4, 0, none⟩) (k + 1) c4) (k + 1) ((out.take (k + 1)).map fun x => .string (bstr x.1.name))) := Lib.hid (by
            rw [HT.out, List.map_append]; exact HB4.out)
          go_roundw
          case rel => exact ⟨k + 1, by omega, by go_num, HO5, HD4.out _ HBA.out⟩
          case measure => simp [intOf]; omega
        · obtain rfl : k = m := by omega
          have HPP : Hid (PlPost l item many w (.returned u11) wr) := Lib.hid ⟨_, rfl, by
            have h := own_baseP HOS.out HB.out.size
            have hl : (out.take k).length = k := by rw [List.length_take, HLEN.out]; omega
            rw [HPT.out, List.length_map, List.map_map, hl]
            exact h, below_tr2 HB.out HBS.out HB.out.size⟩
          go_wp2_with fail
          go_ret
          exact HPP.out
end Go.Proofs.YtdeeiifcjbmmiaaGreatDoor
