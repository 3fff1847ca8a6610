/-
  'CheckTeams' of package rights and of the reference of chapter 10.
-/
import Derived.Test.YtdljgjlkfihjdaaGreatDoorBelow
namespace Go.Proofs.YtdljgjlkfihjdaaGreatDoor
open Go.RowKit
set_option linter.unusedVariables false
set_option linter.unusedSimpArgs false

def unkT (l : List Team) (ts : List (List UInt8)) : Bool := ts.any fun s => decide (teamIdx l s < 0)
set_option maxRecDepth 100000 in
set_option maxHeartbeats 1000000 in
theorem unkFn_any (v : Value) (l : List Team) (s : List UInt8) (bx : Nat) (w : World) (h0 : (Rp.sl teamRp).ok w (· < w.heap.size) [v] l) (hs : TSorted l) (hm : l.length ≤ 100) (hb : w.cell? ⟨bx, 0, none⟩ = some v) :
    Calls Tryz.prog 40 #[.string (bstr s), .pointer (some ⟨bx, 0, none⟩)] w fun e w' => e = .returned (.bool (decide (teamIdx l s < 0))) ∧ Below w.heap.size w w' := by
  obtain ⟨A, c, rfl, hl, hc, _⟩ := Rp.sl_open h0
  go_enter Tryz.func40, Tryz.ntmps40
  go_wp2_with fail
  refine (teamAt_any _ l s w h0 hs hm).mono ?_
  rintro e w1 ⟨rfl, hb1⟩
  have HB := Lib.hid hb1
  clear hb1 hb h0
  go_wp2_with fail
  go_ret
  exact ⟨rfl, HB.out⟩
def IdxNm (l : List Team) (ts : List (List UInt8)) (e : Ending) : Prop := ∃ i : Int, e = .returned (.int .i64 i) ∧ (0 ≤ i ↔ unkT l ts = true)
set_option maxRecDepth 100000 in
set_option maxHeartbeats 2000000 in
theorem idxUnk_any (vt : Value) (ts : List (List UInt8)) (v : Value) (l : List Team) (bx : Nat) (w : World) (ht : namesRp.ok w (· < w.heap.size) [vt] ts) (h0 : (Rp.sl teamRp).ok w (· < w.heap.size) [v] l) (hs : TSorted l) (hm : l.length ≤ 100) (hb : w.cell? ⟨bx, 0, none⟩ = some v) :
    Calls Tryz.prog 66 #[vt, .func (.func 40) #[] #[.pointer (some ⟨bx, 0, none⟩)]] w fun e w' => IdxNm l ts e ∧ Below w.heap.size w w' := by
  obtain ⟨A, c, rfl, hl, hc, _⟩ := names_open ht
  unfold maxLen at hc
  have hbx := World.block_lt_of_cell? w _ hb
  have H0 := Lib.hid h0
  have HT := Lib.hid ht
  have HBX := Lib.hid hb
  clear h0 ht hb
  go_enter Tryz.func66, Tryz.ntmps66
  go_wp2_with fail
  go_loopw [8] (fun i wr => ∃ k : Nat, k ≤ ts.length ∧ i = .int .i64 k ∧ Hid (∀ y ∈ ts.take k, decide (teamIdx l y < 0) = false) ∧ Hid (Below w.heap.size w wr)) (fun i _ => ts.length - (intOf i).toNat)
  case atStart => exact ⟨0, by omega, rfl, by simp [Hid], Below.refl _ _⟩
  case round =>
    obtain ⟨k, hk, rfl, HS, HB⟩ := hrel
    by_cases hlt : k < ts.length
    · obtain ⟨ad, cc, e1, hadb, c0, hz⟩ := names_at (namesRp.below HT.out HB.out) hlt
      injection e1 with e1 _ e2
      subst e1 e2
      have hcon := Lib.hid (unkFn_any v l ts[k] bx wr (Rp.ext _ H0.out HB.out) hs hm ((HB.out.cell (p := ⟨bx, 0, none⟩) hbx).trans HBX.out))
      have HY : Hid (decide (teamIdx l ts[k] < 0) = true → unkT l ts = true) := Lib.hid (fun h => by
        unfold unkT
        rw [List.any_eq_true]
        exact ⟨ts[k], List.getElem_mem hlt, h⟩)
      have HN : Hid (decide (teamIdx l ts[k] < 0) = false → ∀ y ∈ ts.take (k + 1), decide (teamIdx l y < 0) = false) := Lib.hid (fun h y hy => by
        rcases take_one hlt hy with e | e
        · exact HS.out y e
        · rw [e]; exact h)
      generalize ts[k] = x at *
      go_wp2_with fail
      refine hcon.out.mono ?_
      rintro e w5 ⟨rfl, hb5⟩
      have HB5 := Lib.hid (HB.out.trans (hb5.mono HB.out.size))
      clear hb5 hcon c0
      cases hq : decide (teamIdx l x < 0) with
      | true =>
        have HF := Lib.hid (HY.out hq)
        clear hq HY HN
        go_wp2_with fail
        go_ret
        exact ⟨⟨k, rfl, ⟨fun _ => HF.out, fun _ => by omega⟩⟩, HB5.out⟩
      | false =>
        have F5 := Lib.hid (HN.out hq)
        clear hq HY HN
        go_wp2_with fail
        go_roundw
        case rel => first | exact ⟨k + 1, by omega, by go_num, F5, HB5⟩ | (repeat (apply Exists.intro); (refine And.intro ?_ ?_; rotate_left; (repeat' (first | exact rfl | apply And.intro)); exact ⟨k + 1, by omega, by go_num, F5, HB5⟩))
        case measure => simp [intOf]; omega
    · have HF : Hid (unkT l ts = false) := Lib.hid (by
        unfold unkT
        rw [List.any_eq_false]
        intro y hy
        rw [HS.out y (by rw [List.take_of_length_le (by omega)]; exact hy)]; decide)
      go_wp2_with fail
      go_ret
      exact ⟨⟨-1, rfl, ⟨fun h => absurd h (by decide), fun h => by rw [HF.out] at h; cases h⟩⟩, HB.out⟩
set_option maxRecDepth 100000 in
set_option maxHeartbeats 1000000 in
theorem anyUnk_any (vt : Value) (ts : List (List UInt8)) (v : Value) (l : List Team) (bx : Nat) (w : World) (ht : namesRp.ok w (· < w.heap.size) [vt] ts) (h0 : (Rp.sl teamRp).ok w (· < w.heap.size) [v] l) (hs : TSorted l) (hm : l.length ≤ 100) (hb : w.cell? ⟨bx, 0, none⟩ = some v) :
    Calls Tryz.prog 39 #[vt, .func (.func 40) #[] #[.pointer (some ⟨bx, 0, none⟩)]] w fun e w' => e = .returned (.bool (unkT l ts)) ∧ Below w.heap.size w w' := by
  go_enter Tryz.func39, Tryz.ntmps39
  go_wp2_with fail
  refine (idxUnk_any vt ts v l bx w ht h0 hs hm hb).mono ?_
  rintro e w1 ⟨⟨i, rfl, HI⟩, hb1⟩
  have HB := Lib.hid hb1
  have HII := Lib.hid HI
  clear hb1 HI ht h0 hb
  by_cases hi : 0 ≤ i
  · have HD := Lib.hid (HII.out.1 hi)
    go_wp2_with fail
    go_ret
    exact ⟨by rw [HD.out]; rfl, HB.out⟩
  · have HD : Hid (unkT l ts = false) := Lib.hid (by cases q : unkT l ts with | false => rfl | true => exact absurd (HII.out.2 q) hi)
    have hid : decide (0 ≤ i) = false := decide_eq_false hi
    have HDI := Lib.hid hid
    clear hid
    go_wp2_with fail
    go_ret
    exact ⟨by rw [HD.out]; show Ending.returned (.bool (decide (0 ≤ i))) = _; rw [HDI.out], HB.out⟩
theorem unk_no {l : List Team} (h : ∀ j, (hj : j < l.length) → unkT l l[j].teams = false) : unkB l = false := by
  unfold unkB
  rw [List.any_eq_false]
  intro t ht
  obtain ⟨j, hj, rfl⟩ := List.mem_iff_getElem.1 ht
  have := h j hj
  unfold unkT at this
  rw [this]; decide
theorem unk_yes {l : List Team} {j : Nat} (hj : j < l.length) (h : unkT l l[j].teams = true) : unkB l = true := by
  unfold unkB
  rw [List.any_eq_true]
  exact ⟨l[j], List.getElem_mem hj, h⟩
set_option maxRecDepth 100000 in
set_option maxHeartbeats 8000000 in
theorem checkTeams_any (v : Value) (l : List Team) (w : World) (h0 : (Rp.sl teamRp).ok w (· < w.heap.size) [v] l) :
    Calls Tryz.prog 20 #[v] w fun e w' => e = .returned (.int .i64 (teamsFault l)) ∧ Below w.heap.size w w' := by
  obtain ⟨A, c, rfl, hl, hc, _⟩ := Rp.sl_open h0
  unfold maxLen at hc
  have HBW := Lib.hid ((Below.refl w.heap.size w).alloc (Nat.le_refl _) (.cells #[.slice A l.length c] 22))
  have hkx := Blk.new w 22 [.slice A l.length c]
  have hbx0 : _ = some (Value.slice A l.length c) := hkx.cell 0
  have hbxlt0 := hkx.lt
  clear hkx
  have H1 := Lib.hid (Rp.ext _ h0 HBW.out)
  clear h0
  by_cases h5 : 100 < l.length
  · have HF := Lib.hid (teams_1 h5)
    have h5' : (100 : Int) < (l.length : Int) := by omega
    go_enter Tryz.func20, Tryz.ntmps20
    go_wp2_with fail
    go_ret
    exact ⟨by rw [HF.out]; rfl, HBW.out⟩
  have h5' : ¬ (100 : Int) < (l.length : Int) := by omega
  have hbxlt := hbxlt0
  clear hbxlt0
  go_enter Tryz.func20, Tryz.ntmps20
  go_wp2_with fail
  generalize w.alloc (.cells #[.slice A l.length c] 22) = w1 at *
  go_loopw [15] (fun i wr => ∃ k : Nat, k ≤ l.length ∧ i = .int .i64 k ∧ Hid (∀ j, j < k → teamF l j = 0) ∧ Hid (Below w1.heap.size w1 wr)) (fun i _ => l.length - (intOf i).toNat)
  case atStart => exact ⟨0, by omega, rfl, (fun j hj => absurd hj (by omega)), Below.refl _ _⟩
  case round =>
    obtain ⟨k, hk, rfl, HS, HB⟩ := hrel
    have bxr : wr.cell? ⟨w.heap.size, 0, none⟩ = some (.slice A l.length c) := (HB.out.cell (p := ⟨w.heap.size, 0, none⟩) hbxlt).trans hbx0
    have hszr : w1.heap.size ≤ wr.heap.size := HB.out.size
    by_cases hlt : k < l.length
    · obtain ⟨ad, cc, Ap, cp, At, ct, e1, hadb, c0, c1, c2, hz, hp, ht⟩ := team_at (Rp.below _ H1.out HB.out) hlt
      injection e1 with e1 _ e2
      subst e1 e2
      unfold maxLen at hz
      have hz2 : l[k].name.length ≤ 9223372036854775807 := by omega
      have F1 : Hid (∀ f, teamF l k = f → f ≠ 0 → teamsFault l = f) := Lib.hid (fun f h h0 => teams_2 h5 hlt HS.out h h0)
      have G5 : Hid (teamF l k = 0 → ∀ j, j < k + 1 → teamF l j = 0) := Lib.hid (fun h => firstF_step HS.out h)
      have HR : Hid (teamF l k = if isNm l[k].name = false then 5 else if 0 < k ∧ sle l[k].name (l.getD (k - 1) default).name = true then 8
        else if 200 < l[k].people.length ∨ 200 < l[k].teams.length then 2 else if namesFault l[k].people ≠ 0 then namesFault l[k].people else namesFault l[k].teams) := Lib.hid (by rw [teamF, getD_at _ _ hlt])
      have HPP := Lib.hid hp
      have HTT := Lib.hid ht
      clear hp ht
      generalize hx : l[k] = x at *
      clear hx
      have HB4 := Lib.hid (HB.out.alloc HB.out.size (.cells #[.string (bstr x.name), .slice Ap x.people.length cp, .slice At x.teams.length ct] 69))
      have hkb := Blk.new wr 69 [.string (bstr x.name), .slice Ap x.people.length cp, .slice At x.teams.length ct]
      have d0 : _ = some (Value.string (bstr x.name)) := hkb.cell 0
      have d1 : _ = some (Value.slice Ap x.people.length cp) := hkb.cell 1
      have d2 : _ = some (Value.slice At x.teams.length ct) := hkb.cell 2
      have lt4 : wr.heap.size < (wr.alloc (.cells #[.string (bstr x.name), .slice Ap x.people.length cp, .slice At x.teams.length ct] 69)).heap.size := by simp
      clear hkb
      have bx4 : (wr.alloc (.cells #[.string (bstr x.name), .slice Ap x.people.length cp, .slice At x.teams.length ct] 69)).cell? ⟨w.heap.size, 0, none⟩ = some (.slice (some ad) l.length c) := (((Below.refl wr.heap.size wr).alloc (Nat.le_refl _) (.cells #[.string (bstr x.name), .slice Ap x.people.length cp, .slice At x.teams.length ct] 69)).cell (p := ⟨w.heap.size, 0, none⟩) (Nat.lt_of_lt_of_le hbxlt hszr)).trans bxr
      have hsz4 : w1.heap.size ≤ (wr.alloc (.cells #[.string (bstr x.name), .slice Ap x.people.length cp, .slice At x.teams.length ct] 69)).heap.size := by simp; omega
      go_wp2_with fail
      generalize hw4 : wr.alloc (.cells #[.string (bstr x.name), .slice Ap x.people.length cp, .slice At x.teams.length ct] 69) = w4 at *
      have HWR : Hid (Below wr.heap.size wr w4) := Lib.hid (by rw [← hw4]; exact (Below.refl _ _).alloc (Nat.le_refl _) _)
      clear hw4
      refine (isName_any x.name _ hz2).mono ?_
      rintro e w5 ⟨rfl, hb5⟩
      have HWR5 := Lib.hid (HWR.out.trans (hb5.mono HWR.out.size))
      have HB5 := Lib.hid (HB4.out.trans (hb5.mono HB4.out.size))
      have lt5 : wr.heap.size < w5.heap.size := by have := hb5.size; omega
      have d0 : w5.cell? ⟨wr.heap.size, 0, none⟩ = some (.string (bstr x.name)) := (hb5.cell lt4).trans d0
      have d1 : w5.cell? ⟨wr.heap.size, 1, none⟩ = some (.slice Ap x.people.length cp) := (hb5.cell lt4).trans d1
      have d2 : w5.cell? ⟨wr.heap.size, 2, none⟩ = some (.slice At x.teams.length ct) := (hb5.cell lt4).trans d2
      have bx5 : w5.cell? ⟨w.heap.size, 0, none⟩ = some (.slice (some ad) l.length c) := (hb5.cell (Nat.lt_of_lt_of_le hbxlt hsz4)).trans bx4
      have hsz5 : w1.heap.size ≤ w5.heap.size := by have := hb5.size; omega
      clear bx4
      clear hb5
      have HPW : Hid (namesRp.ok w5 (· < w5.heap.size) [.slice Ap x.people.length cp] x.people) := Lib.hid (Rp.sub namesRp (namesRp.keep HPP.out (fun g hg => HWR5.out.block g (Nat.lt_of_lt_of_le hg HB.out.size)) (fun _ h => h)) (fun g hg => Nat.lt_of_lt_of_le hg (Nat.le_trans HB.out.size HWR5.out.size)))
      have HTW : Hid (namesRp.ok w5 (· < w5.heap.size) [.slice At x.teams.length ct] x.teams) := Lib.hid (Rp.sub namesRp (namesRp.keep HTT.out (fun g hg => HWR5.out.block g (Nat.lt_of_lt_of_le hg HB.out.size)) (fun _ h => h)) (fun g hg => Nat.lt_of_lt_of_le hg (Nat.le_trans HB.out.size HWR5.out.size)))
      clear HPP HTT HWR HWR5
      cases q1 : isNm x.name with
      | false =>
        have HF : Hid (teamsFault l = 5) := Lib.hid (F1.out _ (HR.out.trans (if_pos q1)) (by decide))
        clear q1 HR F1 G5
        go_wp2_with fail
        go_ret
        exact ⟨by rw [HF.out]; rfl, HBW.out.trans (HB5.out.mono HBW.out.size)⟩
      | true =>
      have HR1 := Lib.hid (HR.out.trans (if_neg (by rw [q1]; decide)))
      clear q1 HR
      by_cases hk0 : k = 0
      · have HR2 := Lib.hid (HR1.out.trans (if_neg (fun e => absurd e.1 (by omega))))
        have hk0' : ¬ (0 : Int) < (k : Int) := by omega
        have hk0n : ¬ 0 < k := by omega
        clear HR1 hk0
        go_wp2_with fail
        go_quiet (fail)
        have hb8 := below_drewN (Below.refl w5.heap.size w5) nq
        obtain ⟨w8, hw8⟩ : ∃ w8, w8 = w5.drewN nq := ⟨_, rfl⟩
        rw [← hw8] at hb8 ⊢
        have HPW := Lib.hid (Rp.ext namesRp HPW.out hb8)
        have HTW := Lib.hid (Rp.ext namesRp HTW.out hb8)
        have HB8 := Lib.hid (HB5.out.trans (hb8.mono HB5.out.size))
        have lt8 : wr.heap.size < w8.heap.size := by have := hb8.size; omega
        have d0 : w8.cell? ⟨wr.heap.size, 0, none⟩ = some (.string (bstr x.name)) := (hb8.cell lt5).trans d0
        have d1 : w8.cell? ⟨wr.heap.size, 1, none⟩ = some (.slice Ap x.people.length cp) := (hb8.cell lt5).trans d1
        have d2 : w8.cell? ⟨wr.heap.size, 2, none⟩ = some (.slice At x.teams.length ct) := (hb8.cell lt5).trans d2
        have bx8 : w8.cell? ⟨w.heap.size, 0, none⟩ = some (.slice (some ad) l.length c) := (hb8.cell (Nat.lt_of_lt_of_le hbxlt hsz5)).trans bx5
        have hsz8 : w1.heap.size ≤ w8.heap.size := by have := hb8.size; omega
        clear bx5
        clear hb8
        clear hw8
        by_cases hfew : 200 < x.people.length ∨ 200 < x.teams.length
        · have HF : Hid (teamsFault l = 2) := Lib.hid (F1.out _ (HR2.out.trans (if_pos hfew)) (by decide))
          clear HR2 F1 G5
          by_cases hp2 : 200 < x.people.length
          · have hp2' : (200 : Int) < (x.people.length : Int) := by omega
            go_wp2_with fail
            go_ret
            exact ⟨by rw [HF.out]; rfl, (HBW.out.trans (HB8.out.mono HBW.out.size))⟩
          · have hp2' : ¬ (200 : Int) < (x.people.length : Int) := by omega
            have ht2' : (200 : Int) < (x.teams.length : Int) := by omega
            go_wp2_with fail
            go_ret
            exact ⟨by rw [HF.out]; rfl, (HBW.out.trans (HB8.out.mono HBW.out.size))⟩
        have hp2' : ¬ (200 : Int) < (x.people.length : Int) := by omega
        have ht2' : ¬ (200 : Int) < (x.teams.length : Int) := by omega
        have HR3 : Hid (teamF l (k) = if namesFault x.people ≠ 0 then namesFault x.people else namesFault x.teams) := Lib.hid (HR2.out.trans (if_neg hfew))
        clear HR2 hfew
        go_wp2_with fail
        refine (checkNames_any _ x.people _ HPW.out).mono ?_
        rintro e w6 ⟨rfl, hb6⟩
        have HTW6 := Lib.hid (Rp.ext namesRp HTW.out hb6)
        have HB6 := Lib.hid (HB8.out.trans (hb6.mono HB8.out.size))
        have lt6 : wr.heap.size < w6.heap.size := by have := hb6.size; omega
        have d0 : w6.cell? ⟨wr.heap.size, 0, none⟩ = some (.string (bstr x.name)) := (hb6.cell lt8).trans d0
        have d1 : w6.cell? ⟨wr.heap.size, 1, none⟩ = some (.slice Ap x.people.length cp) := (hb6.cell lt8).trans d1
        have d2 : w6.cell? ⟨wr.heap.size, 2, none⟩ = some (.slice At x.teams.length ct) := (hb6.cell lt8).trans d2
        have bx6 : w6.cell? ⟨w.heap.size, 0, none⟩ = some (.slice (some ad) l.length c) := (hb6.cell (Nat.lt_of_lt_of_le hbxlt hsz8)).trans bx8
        have hsz6 : w1.heap.size ≤ w6.heap.size := by have := hb6.size; omega
        clear bx8
        clear hb6
        clear HPW HTW
        generalize namesFault x.people = nf at *
        by_cases hnf : nf = 0
        case neg =>
          have HF : Hid (teamsFault l = nf) := Lib.hid (F1.out _ (HR3.out.trans (if_pos hnf)) hnf)
          have hb : (nf != 0) = true := by simpa using hnf
          clear hnf HR3 F1 G5
          go_wp2_with fail
          go_ret
          exact ⟨by rw [HF.out]; rfl, (HBW.out.trans (HB6.out.mono HBW.out.size))⟩
        have hb : (nf != 0) = false := by simpa using hnf
        have HR4 : Hid (teamF l (k) = namesFault x.teams) := Lib.hid (HR3.out.trans (if_neg (fun e => e hnf)))
        clear HR3
        subst hnf
        go_wp2_with fail
        refine (checkNames_any _ x.teams _ HTW6.out).mono ?_
        rintro e w7 ⟨rfl, hb7⟩
        have HB7 := Lib.hid (HB6.out.trans (hb7.mono HB6.out.size))
        have lt7 : wr.heap.size < w7.heap.size := by have := hb7.size; omega
        have d0 : w7.cell? ⟨wr.heap.size, 0, none⟩ = some (.string (bstr x.name)) := (hb7.cell lt6).trans d0
        have d1 : w7.cell? ⟨wr.heap.size, 1, none⟩ = some (.slice Ap x.people.length cp) := (hb7.cell lt6).trans d1
        have d2 : w7.cell? ⟨wr.heap.size, 2, none⟩ = some (.slice At x.teams.length ct) := (hb7.cell lt6).trans d2
        have bx7 : w7.cell? ⟨w.heap.size, 0, none⟩ = some (.slice (some ad) l.length c) := (hb7.cell (Nat.lt_of_lt_of_le hbxlt hsz6)).trans bx6
        have hsz7 : w1.heap.size ≤ w7.heap.size := by have := hb7.size; omega
        clear bx6
        clear hb7
        clear HTW6
        generalize namesFault x.teams = ng at *
        by_cases hng : ng = 0
        case neg =>
          have HF : Hid (teamsFault l = ng) := Lib.hid (F1.out _ HR4.out hng)
          have hb : (ng != 0) = true := by simpa using hng
          clear hng HR4 F1 G5
          go_wp2_with fail
          go_ret
          exact ⟨by rw [HF.out]; rfl, (HBW.out.trans (HB7.out.mono HBW.out.size))⟩
        subst hng
        have F5 := Lib.hid (G5.out HR4.out)
        clear HR4 F1 G5
        go_wp2_with fail
        go_roundw
        case rel => first | exact ⟨k + 1, by omega, by go_num, F5, HB7⟩ | (repeat (apply Exists.intro); (refine And.intro ?_ ?_; rotate_left; (repeat' (first | exact rfl | apply And.intro)); exact ⟨k + 1, by omega, by go_num, F5, HB7⟩))
        case measure => simp [intOf]; omega
      · obtain ⟨m, rfl⟩ : ∃ m, k = m + 1 := ⟨k - 1, by omega⟩
        have hm : m < l.length := by omega
        obtain ⟨ad', c', Ap', cp', At', ct', e1, hadb', p0, _, _, _, _, _⟩ := team_at (Rp.below _ H1.out HB5.out) hm
        cases e1
        simp only [Nat.add_sub_cancel] at HR1
        rw [getD_at _ _ hm] at HR1
        generalize l[m].name = y at *
        have hk0' : (0 : Int) < (m : Int) + 1 := by omega
        have hkm : IntKind.i64.wrap ((m : Int) + 1 - 1) = m := by rw [Int.add_sub_cancel]; exact IntWalk.i64_in _ (by omega)
        have hkm2 : IntKind.i64.wrap (m : Int) = m := IntWalk.i64_in _ (by omega)
        have hm0 : (0 : Int) ≤ (m : Int) := by omega
        have hml : (m : Int) < (l.length : Int) := by omega
        go_wp2_with fail
        go_quiet (fail)
        rw [sle_eq]
        have hb8 := below_drewN (Below.refl w5.heap.size w5) nq
        obtain ⟨w8, hw8⟩ : ∃ w8, w8 = w5.drewN nq := ⟨_, rfl⟩
        rw [← hw8] at hb8 ⊢
        have HPW := Lib.hid (Rp.ext namesRp HPW.out hb8)
        have HTW := Lib.hid (Rp.ext namesRp HTW.out hb8)
        have HB8 := Lib.hid (HB5.out.trans (hb8.mono HB5.out.size))
        have lt8 : wr.heap.size < w8.heap.size := by have := hb8.size; omega
        have d0 : w8.cell? ⟨wr.heap.size, 0, none⟩ = some (.string (bstr x.name)) := (hb8.cell lt5).trans d0
        have d1 : w8.cell? ⟨wr.heap.size, 1, none⟩ = some (.slice Ap x.people.length cp) := (hb8.cell lt5).trans d1
        have d2 : w8.cell? ⟨wr.heap.size, 2, none⟩ = some (.slice At x.teams.length ct) := (hb8.cell lt5).trans d2
        have bx8 : w8.cell? ⟨w.heap.size, 0, none⟩ = some (.slice (some ad) l.length c) := (hb8.cell (Nat.lt_of_lt_of_le hbxlt hsz5)).trans bx5
        have hsz8 : w1.heap.size ≤ w8.heap.size := by have := hb8.size; omega
        clear bx5
        clear hb8
        clear hw8
        clear hk0' hkm hkm2 hm0 hml p0 hk0
        cases hs : sle x.name y with
        | true =>
          have HF : Hid (teamsFault l = 8) := Lib.hid (F1.out _ (HR1.out.trans (if_pos ⟨by omega, hs⟩)) (by decide))
          clear hs HR1 F1 G5
          go_wp2_with fail
          go_ret
          exact ⟨by rw [HF.out]; rfl, HBW.out.trans (HB8.out.mono HBW.out.size)⟩
        | false =>
        have HR2 := Lib.hid (HR1.out.trans (if_neg (fun e => by rw [hs] at e; exact absurd e.2 (by decide))))
        clear hs HR1
        by_cases hfew : 200 < x.people.length ∨ 200 < x.teams.length
        · have HF : Hid (teamsFault l = 2) := Lib.hid (F1.out _ (HR2.out.trans (if_pos hfew)) (by decide))
          clear HR2 F1 G5
          by_cases hp2 : 200 < x.people.length
          · have hp2' : (200 : Int) < (x.people.length : Int) := by omega
            go_wp2_with fail
            go_ret
            exact ⟨by rw [HF.out]; rfl, (HBW.out.trans (HB8.out.mono HBW.out.size))⟩
          · have hp2' : ¬ (200 : Int) < (x.people.length : Int) := by omega
            have ht2' : (200 : Int) < (x.teams.length : Int) := by omega
            go_wp2_with fail
            go_ret
            exact ⟨by rw [HF.out]; rfl, (HBW.out.trans (HB8.out.mono HBW.out.size))⟩
        have hp2' : ¬ (200 : Int) < (x.people.length : Int) := by omega
        have ht2' : ¬ (200 : Int) < (x.teams.length : Int) := by omega
        have HR3 : Hid (teamF l (m + 1) = if namesFault x.people ≠ 0 then namesFault x.people else namesFault x.teams) := Lib.hid (HR2.out.trans (if_neg hfew))
        clear HR2 hfew
        go_wp2_with fail
        refine (checkNames_any _ x.people _ HPW.out).mono ?_
        rintro e w6 ⟨rfl, hb6⟩
        have HTW6 := Lib.hid (Rp.ext namesRp HTW.out hb6)
        have HB6 := Lib.hid (HB8.out.trans (hb6.mono HB8.out.size))
        have lt6 : wr.heap.size < w6.heap.size := by have := hb6.size; omega
        have d0 : w6.cell? ⟨wr.heap.size, 0, none⟩ = some (.string (bstr x.name)) := (hb6.cell lt8).trans d0
        have d1 : w6.cell? ⟨wr.heap.size, 1, none⟩ = some (.slice Ap x.people.length cp) := (hb6.cell lt8).trans d1
        have d2 : w6.cell? ⟨wr.heap.size, 2, none⟩ = some (.slice At x.teams.length ct) := (hb6.cell lt8).trans d2
        have bx6 : w6.cell? ⟨w.heap.size, 0, none⟩ = some (.slice (some ad) l.length c) := (hb6.cell (Nat.lt_of_lt_of_le hbxlt hsz8)).trans bx8
        have hsz6 : w1.heap.size ≤ w6.heap.size := by have := hb6.size; omega
        clear bx8
        clear hb6
        clear HPW HTW
        generalize namesFault x.people = nf at *
        by_cases hnf : nf = 0
        case neg =>
          have HF : Hid (teamsFault l = nf) := Lib.hid (F1.out _ (HR3.out.trans (if_pos hnf)) hnf)
          have hb : (nf != 0) = true := by simpa using hnf
          clear hnf HR3 F1 G5
          go_wp2_with fail
          go_ret
          exact ⟨by rw [HF.out]; rfl, (HBW.out.trans (HB6.out.mono HBW.out.size))⟩
        have hb : (nf != 0) = false := by simpa using hnf
        have HR4 : Hid (teamF l (m + 1) = namesFault x.teams) := Lib.hid (HR3.out.trans (if_neg (fun e => e hnf)))
        clear HR3
        subst hnf
        go_wp2_with fail
        refine (checkNames_any _ x.teams _ HTW6.out).mono ?_
        rintro e w7 ⟨rfl, hb7⟩
        have HB7 := Lib.hid (HB6.out.trans (hb7.mono HB6.out.size))
        have lt7 : wr.heap.size < w7.heap.size := by have := hb7.size; omega
        have d0 : w7.cell? ⟨wr.heap.size, 0, none⟩ = some (.string (bstr x.name)) := (hb7.cell lt6).trans d0
        have d1 : w7.cell? ⟨wr.heap.size, 1, none⟩ = some (.slice Ap x.people.length cp) := (hb7.cell lt6).trans d1
        have d2 : w7.cell? ⟨wr.heap.size, 2, none⟩ = some (.slice At x.teams.length ct) := (hb7.cell lt6).trans d2
        have bx7 : w7.cell? ⟨w.heap.size, 0, none⟩ = some (.slice (some ad) l.length c) := (hb7.cell (Nat.lt_of_lt_of_le hbxlt hsz6)).trans bx6
        have hsz7 : w1.heap.size ≤ w7.heap.size := by have := hb7.size; omega
        clear bx6
        clear hb7
        clear HTW6
        generalize namesFault x.teams = ng at *
        by_cases hng : ng = 0
        case neg =>
          have HF : Hid (teamsFault l = ng) := Lib.hid (F1.out _ HR4.out hng)
          have hb : (ng != 0) = true := by simpa using hng
          clear hng HR4 F1 G5
          go_wp2_with fail
          go_ret
          exact ⟨by rw [HF.out]; rfl, (HBW.out.trans (HB7.out.mono HBW.out.size))⟩
        subst hng
        have F5 := Lib.hid (G5.out HR4.out)
        clear HR4 F1 G5
        go_wp2_with fail
        go_roundw
        case rel => first | exact ⟨m + 1 + 1, by omega, by go_num, F5, HB7⟩ | (repeat (apply Exists.intro); (refine And.intro ?_ ?_; rotate_left; (repeat' (first | exact rfl | apply And.intro)); exact ⟨m + 1 + 1, by omega, by go_num, F5, HB7⟩))
        case measure => simp [intOf]; omega
    · obtain rfl : k = l.length := by omega
      have HTS := Lib.hid (tsorted_F HS.out)
      go_wp2_with fail
      go_loopw [65] (fun i wx => ∃ k : Nat, k ≤ l.length ∧ i = .int .i64 k ∧ Hid (∀ j, (hj : j < l.length) → j < k → unkT l l[j].teams = false) ∧ Hid (Below w1.heap.size w1 wx)) (fun i _ => l.length - (intOf i).toNat)
      case atStart => exact ⟨0, by omega, rfl, (fun j _ hj => absurd hj (by omega)), HB⟩
      case round =>
        clear HB bxr hszr
        obtain ⟨k, hk, rfl, HU, HB⟩ := hrel
        have bxr : wr.cell? ⟨w.heap.size, 0, none⟩ = some (.slice A l.length c) := (HB.out.cell (p := ⟨w.heap.size, 0, none⟩) hbxlt).trans hbx0
        have hszr : w1.heap.size ≤ wr.heap.size := HB.out.size
        by_cases hlt : k < l.length
        · obtain ⟨ad, cc, Ap, cp, At, ct, e1, hadb, c0, c1, c2, hz, hp, ht⟩ := team_at (Rp.below _ H1.out HB.out) hlt
          injection e1 with e1 _ e2
          subst e1 e2
          have HTT := Lib.hid ht
          have HY : Hid (unkT l l[k].teams = true → teamsFault l = 9) := Lib.hid (fun h => teams_3 h5 HS.out (unk_yes hlt h))
          have HN : Hid (unkT l l[k].teams = false → ∀ j, (hj : j < l.length) → j < k + 1 → unkT l l[j].teams = false) := Lib.hid (fun h j hj hjk => by
            by_cases e : j = k
            · subst e; exact h
            · exact HU.out j hj (by omega))
          clear hp ht
          generalize l[k] = x at *
          have HB4 := Lib.hid (HB.out.alloc HB.out.size (.cells #[.string (bstr x.name), .slice Ap x.people.length cp, .slice At x.teams.length ct] 69))
          have hkb := Blk.new wr 69 [.string (bstr x.name), .slice Ap x.people.length cp, .slice At x.teams.length ct]
          have d2 : _ = some (Value.slice At x.teams.length ct) := hkb.cell 2
          have bx4 : (wr.alloc (.cells #[.string (bstr x.name), .slice Ap x.people.length cp, .slice At x.teams.length ct] 69)).cell? ⟨w.heap.size, 0, none⟩ = some (.slice (some ad) l.length c) := (((Below.refl wr.heap.size wr).alloc (Nat.le_refl _) (.cells #[.string (bstr x.name), .slice Ap x.people.length cp, .slice At x.teams.length ct] 69)).cell (p := ⟨w.heap.size, 0, none⟩) (Nat.lt_of_lt_of_le hbxlt hszr)).trans bxr
          clear hkb
          go_wp2_with fail
          generalize hw4 : wr.alloc (.cells #[.string (bstr x.name), .slice Ap x.people.length cp, .slice At x.teams.length ct] 69) = w4 at *
          have HWR : Hid (Below wr.heap.size wr w4) := Lib.hid (by rw [← hw4]; exact (Below.refl _ _).alloc (Nat.le_refl _) _)
          clear hw4
          have HTW : Hid (namesRp.ok w4 (· < w4.heap.size) [.slice At x.teams.length ct] x.teams) := Lib.hid (Rp.sub namesRp (namesRp.keep HTT.out (fun g hg => HWR.out.block g (Nat.lt_of_lt_of_le hg HB.out.size)) (fun _ h => h)) (fun g hg => Nat.lt_of_lt_of_le hg (Nat.le_trans HB.out.size HWR.out.size)))
          refine (anyUnk_any _ x.teams _ l w.heap.size w4 HTW.out (Rp.ext _ H1.out HB4.out) HTS.out (by omega) bx4).mono ?_
          rintro e w5 ⟨rfl, hb5⟩
          have HB5 := Lib.hid (HB4.out.trans (hb5.mono HB4.out.size))
          clear hb5 d2 bx4 HTW HTT HWR
          cases hq : unkT l x.teams with
          | true =>
            have HF := Lib.hid (HY.out hq)
            clear hq HY HN
            go_wp2_with fail
            go_ret
            exact ⟨by rw [HF.out]; rfl, HBW.out.trans (HB5.out.mono HBW.out.size)⟩
          | false =>
            have F5 := Lib.hid (HN.out hq)
            clear hq HY HN
            go_wp2_with fail
            go_roundw
            case rel => first | exact ⟨k + 1, by omega, by go_num, F5, HB5⟩ | (repeat (apply Exists.intro); (refine And.intro ?_ ?_; rotate_left; (repeat' (first | exact rfl | apply And.intro)); exact ⟨k + 1, by omega, by go_num, F5, HB5⟩))
            case measure => simp [intOf]; omega
        · obtain rfl : k = l.length := by omega
          have HUN := Lib.hid (unk_no (fun j hj => HU.out j hj hj))
          have HTG := Lib.hid (tgood_of h5 HS.out HUN.out)
          clear HU
          go_wp2_with fail
          go_loopw [76] (fun i wx => ∃ k : Nat, k ≤ l.length ∧ i = .int .i64 k ∧ Hid (∀ j, j < k → ¬ Reach l j j) ∧ Hid (Below w1.heap.size w1 wx)) (fun i _ => l.length - (intOf i).toNat)
          case atStart => exact ⟨0, by omega, rfl, (fun j hj => absurd hj (by omega)), HB⟩
          case round =>
            clear HB bxr hszr
            obtain ⟨k, hk, rfl, HL, HB⟩ := hrel
            have bxr : wr.cell? ⟨w.heap.size, 0, none⟩ = some (.slice A l.length c) := (HB.out.cell (p := ⟨w.heap.size, 0, none⟩) hbxlt).trans hbx0
            by_cases hlt : k < l.length
            · have hltI : (k : Int) < (l.length : Int) := by omega
              have hk0 : (0 : Int) ≤ (k : Int) := by omega
              go_wp2_with fail
              refine (under_any _ l k wr (Rp.ext _ H1.out HB.out) HTG.out hlt).mono ?_
              rintro e w5 ⟨g, cur, rfl, hgl, hblk, hcl, hre, hb5⟩
              have HB5 := Lib.hid (HB.out.trans (hb5.mono HB.out.size))
              have b0 : w5.cell? ⟨g, k, none⟩ = some (.bool (cur.getD k false)) := bools_at hblk (by rw [hcl]; exact hlt)
              have HRE := Lib.hid (hre k)
              clear hgl hblk hcl hre hb5 bxr
              cases hq : cur.getD k false with
              | true =>
                have HF := Lib.hid (teams_4 h5 HS.out HUN.out ⟨k, hlt, HRE.out.1 hq⟩)
                rw [hq] at b0
                clear hq HRE
                go_wp2_with fail
                go_ret
                exact ⟨by rw [HF.out]; rfl, HBW.out.trans (HB5.out.mono HBW.out.size)⟩
              | false =>
                have HNR : Hid (¬ Reach l k k) := Lib.hid (fun e => by have := HRE.out.2 e; rw [hq] at this; cases this)
                have F5 : Hid (∀ j, j < k + 1 → ¬ Reach l j j) := Lib.hid (fun j hj => by
                  by_cases e : j = k
                  · subst e; exact HNR.out
                  · exact HL.out j (by omega))
                rw [hq] at b0
                clear hq HRE
                go_wp2_with fail
                go_roundw
                case rel => first | exact ⟨k + 1, by omega, by go_num, F5, HB5⟩ | (repeat (apply Exists.intro); (refine And.intro ?_ ?_; rotate_left; (repeat' (first | exact rfl | apply And.intro)); exact ⟨k + 1, by omega, by go_num, F5, HB5⟩))
                case measure => simp [intOf]; omega
            · obtain rfl : k = l.length := by omega
              have HF := Lib.hid (teams_5 h5 HS.out HUN.out (fun ⟨i, hi, hr⟩ => HL.out i hi hr))
              go_wp2_with fail
              go_ret
              exact ⟨by rw [HF.out]; rfl, HBW.out.trans (HB.out.mono HBW.out.size)⟩
set_option maxRecDepth 100000 in
set_option maxHeartbeats 8000000 in
theorem hCheckTeams_any (v : Value) (l : List Team) (w : World) (h0 : (Rp.sl teamRp).ok w (· < w.heap.size) [v] l) :
    Calls Tryz.prog 27 #[v] w fun e w' => e = .returned (.int .i64 (teamsFault l)) ∧ Below w.heap.size w w' := by
  obtain ⟨A, c, rfl, hl, hc, _⟩ := Rp.sl_open h0
  unfold maxLen at hc
  have H1 := Lib.hid h0
  clear h0
  by_cases h5 : 100 < l.length
  · have HF := Lib.hid (teams_1 h5)
    have h5' : (100 : Int) < (l.length : Int) := by omega
    go_enter Tryz.func27, Tryz.ntmps27
    go_wp2_with fail
    go_ret
    exact ⟨by rw [HF.out]; rfl, Below.refl _ _⟩
  have h5' : ¬ (100 : Int) < (l.length : Int) := by omega
  go_enter Tryz.func27, Tryz.ntmps27
  go_wp2_with fail
  go_loopw [17] (fun i wr => ∃ k : Nat, k ≤ l.length ∧ i = .int .i64 k ∧ Hid (∀ j, j < k → teamF l j = 0) ∧ Hid (Below w.heap.size w wr)) (fun i _ => l.length - (intOf i).toNat)
  case atStart => exact ⟨0, by omega, rfl, (fun j hj => absurd hj (by omega)), Below.refl _ _⟩
  case round =>
    obtain ⟨k, hk, rfl, HS, HB⟩ := hrel
    by_cases hlt : k < l.length
    · obtain ⟨ad, cc, Ap, cp, At, ct, e1, hadb, c0, c1, c2, hz, hp, ht⟩ := team_at (Rp.below _ H1.out HB.out) hlt
      injection e1 with e1 _ e2
      subst e1 e2
      unfold maxLen at hz
      have hz2 : l[k].name.length ≤ 9223372036854775807 := by omega
      have F1 : Hid (∀ f, teamF l k = f → f ≠ 0 → teamsFault l = f) := Lib.hid (fun f h h0 => teams_2 h5 hlt HS.out h h0)
      have G5 : Hid (teamF l k = 0 → ∀ j, j < k + 1 → teamF l j = 0) := Lib.hid (fun h => firstF_step HS.out h)
      have HR : Hid (teamF l k = if isNm l[k].name = false then 5 else if 0 < k ∧ sle l[k].name (l.getD (k - 1) default).name = true then 8
        else if 200 < l[k].people.length ∨ 200 < l[k].teams.length then 2 else if namesFault l[k].people ≠ 0 then namesFault l[k].people else namesFault l[k].teams) := Lib.hid (by rw [teamF, getD_at _ _ hlt])
      have HPP := Lib.hid hp
      have HTT := Lib.hid ht
      clear hp ht
      generalize hx : l[k] = x at *
      clear hx
      have HB4 := Lib.hid (HB.out.alloc HB.out.size (.cells #[.string (bstr x.name), .slice Ap x.people.length cp, .slice At x.teams.length ct] 69))
      have hkb := Blk.new wr 69 [.string (bstr x.name), .slice Ap x.people.length cp, .slice At x.teams.length ct]
      have d0 : _ = some (Value.string (bstr x.name)) := hkb.cell 0
      have d1 : _ = some (Value.slice Ap x.people.length cp) := hkb.cell 1
      have d2 : _ = some (Value.slice At x.teams.length ct) := hkb.cell 2
      have lt4 : wr.heap.size < (wr.alloc (.cells #[.string (bstr x.name), .slice Ap x.people.length cp, .slice At x.teams.length ct] 69)).heap.size := by simp
      clear hkb
      go_wp2_with fail
      generalize hw4 : wr.alloc (.cells #[.string (bstr x.name), .slice Ap x.people.length cp, .slice At x.teams.length ct] 69) = w4 at *
      have HWR : Hid (Below wr.heap.size wr w4) := Lib.hid (by rw [← hw4]; exact (Below.refl _ _).alloc (Nat.le_refl _) _)
      clear hw4
      refine (hNameB_any x.name _ hz2).mono ?_
      rintro e w5 ⟨rfl, hb5⟩
      have HWR5 := Lib.hid (HWR.out.trans (hb5.mono HWR.out.size))
      have HB5 := Lib.hid (HB4.out.trans (hb5.mono HB4.out.size))
      have lt5 : wr.heap.size < w5.heap.size := by have := hb5.size; omega
      have d0 : w5.cell? ⟨wr.heap.size, 0, none⟩ = some (.string (bstr x.name)) := (hb5.cell lt4).trans d0
      have d1 : w5.cell? ⟨wr.heap.size, 1, none⟩ = some (.slice Ap x.people.length cp) := (hb5.cell lt4).trans d1
      have d2 : w5.cell? ⟨wr.heap.size, 2, none⟩ = some (.slice At x.teams.length ct) := (hb5.cell lt4).trans d2
      clear hb5
      have HPW : Hid (namesRp.ok w5 (· < w5.heap.size) [.slice Ap x.people.length cp] x.people) := Lib.hid (Rp.sub namesRp (namesRp.keep HPP.out (fun g hg => HWR5.out.block g (Nat.lt_of_lt_of_le hg HB.out.size)) (fun _ h => h)) (fun g hg => Nat.lt_of_lt_of_le hg (Nat.le_trans HB.out.size HWR5.out.size)))
      have HTW : Hid (namesRp.ok w5 (· < w5.heap.size) [.slice At x.teams.length ct] x.teams) := Lib.hid (Rp.sub namesRp (namesRp.keep HTT.out (fun g hg => HWR5.out.block g (Nat.lt_of_lt_of_le hg HB.out.size)) (fun _ h => h)) (fun g hg => Nat.lt_of_lt_of_le hg (Nat.le_trans HB.out.size HWR5.out.size)))
      clear HPP HTT HWR HWR5
      cases q1 : isNm x.name with
      | false =>
        have HF : Hid (teamsFault l = 5) := Lib.hid (F1.out _ (HR.out.trans (if_pos q1)) (by decide))
        clear q1 HR F1 G5
        go_wp2_with fail
        go_ret
        exact ⟨by rw [HF.out]; rfl, HB5.out⟩
      | true =>
      have HR1 := Lib.hid (HR.out.trans (if_neg (by rw [q1]; decide)))
      clear q1 HR
      by_cases hk0 : k = 0
      · have HR2 := Lib.hid (HR1.out.trans (if_neg (fun e => absurd e.1 (by omega))))
        have hk0' : ¬ (0 : Int) < (k : Int) := by omega
        have hk0n : ¬ 0 < k := by omega
        clear HR1 hk0
        go_wp2_with fail
        go_quiet (fail)
        have hb8 := below_drewN (Below.refl w5.heap.size w5) nq
        obtain ⟨w8, hw8⟩ : ∃ w8, w8 = w5.drewN nq := ⟨_, rfl⟩
        rw [← hw8] at hb8 ⊢
        have HPW := Lib.hid (Rp.ext namesRp HPW.out hb8)
        have HTW := Lib.hid (Rp.ext namesRp HTW.out hb8)
        have HB8 := Lib.hid (HB5.out.trans (hb8.mono HB5.out.size))
        have lt8 : wr.heap.size < w8.heap.size := by have := hb8.size; omega
        have d0 : w8.cell? ⟨wr.heap.size, 0, none⟩ = some (.string (bstr x.name)) := (hb8.cell lt5).trans d0
        have d1 : w8.cell? ⟨wr.heap.size, 1, none⟩ = some (.slice Ap x.people.length cp) := (hb8.cell lt5).trans d1
        have d2 : w8.cell? ⟨wr.heap.size, 2, none⟩ = some (.slice At x.teams.length ct) := (hb8.cell lt5).trans d2
        clear hb8
        clear hw8
        by_cases hfew : 200 < x.people.length ∨ 200 < x.teams.length
        · have HF : Hid (teamsFault l = 2) := Lib.hid (F1.out _ (HR2.out.trans (if_pos hfew)) (by decide))
          clear HR2 F1 G5
          by_cases hp2 : 200 < x.people.length
          · have hp2' : (200 : Int) < (x.people.length : Int) := by omega
            go_wp2_with fail
            go_ret
            exact ⟨by rw [HF.out]; rfl, (HB8.out)⟩
          · have hp2' : ¬ (200 : Int) < (x.people.length : Int) := by omega
            have ht2' : (200 : Int) < (x.teams.length : Int) := by omega
            go_wp2_with fail
            go_ret
            exact ⟨by rw [HF.out]; rfl, (HB8.out)⟩
        have hp2' : ¬ (200 : Int) < (x.people.length : Int) := by omega
        have ht2' : ¬ (200 : Int) < (x.teams.length : Int) := by omega
        have HR3 : Hid (teamF l (k) = if namesFault x.people ≠ 0 then namesFault x.people else namesFault x.teams) := Lib.hid (HR2.out.trans (if_neg hfew))
        clear HR2 hfew
        go_wp2_with fail
        refine (checkMembers_any _ x.people _ HPW.out).mono ?_
        rintro e w6 ⟨rfl, hb6⟩
        have HTW6 := Lib.hid (Rp.ext namesRp HTW.out hb6)
        have HB6 := Lib.hid (HB8.out.trans (hb6.mono HB8.out.size))
        have lt6 : wr.heap.size < w6.heap.size := by have := hb6.size; omega
        have d0 : w6.cell? ⟨wr.heap.size, 0, none⟩ = some (.string (bstr x.name)) := (hb6.cell lt8).trans d0
        have d1 : w6.cell? ⟨wr.heap.size, 1, none⟩ = some (.slice Ap x.people.length cp) := (hb6.cell lt8).trans d1
        have d2 : w6.cell? ⟨wr.heap.size, 2, none⟩ = some (.slice At x.teams.length ct) := (hb6.cell lt8).trans d2
        clear hb6
        clear HPW HTW
        generalize namesFault x.people = nf at *
        by_cases hnf : nf = 0
        case neg =>
          have HF : Hid (teamsFault l = nf) := Lib.hid (F1.out _ (HR3.out.trans (if_pos hnf)) hnf)
          have hb : (nf != 0) = true := by simpa using hnf
          clear hnf HR3 F1 G5
          go_wp2_with fail
          go_ret
          exact ⟨by rw [HF.out]; rfl, (HB6.out)⟩
        have hb : (nf != 0) = false := by simpa using hnf
        have HR4 : Hid (teamF l (k) = namesFault x.teams) := Lib.hid (HR3.out.trans (if_neg (fun e => e hnf)))
        clear HR3
        subst hnf
        go_wp2_with fail
        refine (checkMembers_any _ x.teams _ HTW6.out).mono ?_
        rintro e w7 ⟨rfl, hb7⟩
        have HB7 := Lib.hid (HB6.out.trans (hb7.mono HB6.out.size))
        have lt7 : wr.heap.size < w7.heap.size := by have := hb7.size; omega
        have d0 : w7.cell? ⟨wr.heap.size, 0, none⟩ = some (.string (bstr x.name)) := (hb7.cell lt6).trans d0
        have d1 : w7.cell? ⟨wr.heap.size, 1, none⟩ = some (.slice Ap x.people.length cp) := (hb7.cell lt6).trans d1
        have d2 : w7.cell? ⟨wr.heap.size, 2, none⟩ = some (.slice At x.teams.length ct) := (hb7.cell lt6).trans d2
        clear hb7
        clear HTW6
        generalize namesFault x.teams = ng at *
        by_cases hng : ng = 0
        case neg =>
          have HF : Hid (teamsFault l = ng) := Lib.hid (F1.out _ HR4.out hng)
          have hb : (ng != 0) = true := by simpa using hng
          clear hng HR4 F1 G5
          go_wp2_with fail
          go_ret
          exact ⟨by rw [HF.out]; rfl, (HB7.out)⟩
        subst hng
        have F5 := Lib.hid (G5.out HR4.out)
        clear HR4 F1 G5
        go_wp2_with fail
        go_roundw
        case rel => first | exact ⟨k + 1, by omega, by go_num, F5, HB7⟩ | (repeat (apply Exists.intro); (refine And.intro ?_ ?_; rotate_left; (repeat' (first | exact rfl | apply And.intro)); exact ⟨k + 1, by omega, by go_num, F5, HB7⟩))
        case measure => simp [intOf]; omega
      · obtain ⟨m, rfl⟩ : ∃ m, k = m + 1 := ⟨k - 1, by omega⟩
        have hm : m < l.length := by omega
        obtain ⟨ad', c', Ap', cp', At', ct', e1, hadb', p0, _, _, _, _, _⟩ := team_at (Rp.below _ H1.out HB5.out) hm
        cases e1
        simp only [Nat.add_sub_cancel] at HR1
        rw [getD_at _ _ hm] at HR1
        generalize l[m].name = y at *
        have hk0' : (0 : Int) < (m : Int) + 1 := by omega
        have hkm : IntKind.i64.wrap ((m : Int) + 1 - 1) = m := by rw [Int.add_sub_cancel]; exact IntWalk.i64_in _ (by omega)
        have hkm2 : IntKind.i64.wrap (m : Int) = m := IntWalk.i64_in _ (by omega)
        have hm0 : (0 : Int) ≤ (m : Int) := by omega
        have hml : (m : Int) < (l.length : Int) := by omega
        go_wp2_with fail
        go_quiet (fail)
        rw [sle_eq]
        have hb8 := below_drewN (Below.refl w5.heap.size w5) nq
        obtain ⟨w8, hw8⟩ : ∃ w8, w8 = w5.drewN nq := ⟨_, rfl⟩
        rw [← hw8] at hb8 ⊢
        have HPW := Lib.hid (Rp.ext namesRp HPW.out hb8)
        have HTW := Lib.hid (Rp.ext namesRp HTW.out hb8)
        have HB8 := Lib.hid (HB5.out.trans (hb8.mono HB5.out.size))
        have lt8 : wr.heap.size < w8.heap.size := by have := hb8.size; omega
        have d0 : w8.cell? ⟨wr.heap.size, 0, none⟩ = some (.string (bstr x.name)) := (hb8.cell lt5).trans d0
        have d1 : w8.cell? ⟨wr.heap.size, 1, none⟩ = some (.slice Ap x.people.length cp) := (hb8.cell lt5).trans d1
        have d2 : w8.cell? ⟨wr.heap.size, 2, none⟩ = some (.slice At x.teams.length ct) := (hb8.cell lt5).trans d2
        clear hb8
        clear hw8
        clear hk0' hkm hkm2 hm0 hml p0 hk0
        cases hs : sle x.name y with
        | true =>
          have HF : Hid (teamsFault l = 8) := Lib.hid (F1.out _ (HR1.out.trans (if_pos ⟨by omega, hs⟩)) (by decide))
          clear hs HR1 F1 G5
          go_wp2_with fail
          go_ret
          exact ⟨by rw [HF.out]; rfl, HB8.out⟩
        | false =>
        have HR2 := Lib.hid (HR1.out.trans (if_neg (fun e => by rw [hs] at e; exact absurd e.2 (by decide))))
        clear hs HR1
        by_cases hfew : 200 < x.people.length ∨ 200 < x.teams.length
        · have HF : Hid (teamsFault l = 2) := Lib.hid (F1.out _ (HR2.out.trans (if_pos hfew)) (by decide))
          clear HR2 F1 G5
          by_cases hp2 : 200 < x.people.length
          · have hp2' : (200 : Int) < (x.people.length : Int) := by omega
            go_wp2_with fail
            go_ret
            exact ⟨by rw [HF.out]; rfl, (HB8.out)⟩
          · have hp2' : ¬ (200 : Int) < (x.people.length : Int) := by omega
            have ht2' : (200 : Int) < (x.teams.length : Int) := by omega
            go_wp2_with fail
            go_ret
            exact ⟨by rw [HF.out]; rfl, (HB8.out)⟩
        have hp2' : ¬ (200 : Int) < (x.people.length : Int) := by omega
        have ht2' : ¬ (200 : Int) < (x.teams.length : Int) := by omega
        have HR3 : Hid (teamF l (m + 1) = if namesFault x.people ≠ 0 then namesFault x.people else namesFault x.teams) := Lib.hid (HR2.out.trans (if_neg hfew))
        clear HR2 hfew
        go_wp2_with fail
        refine (checkMembers_any _ x.people _ HPW.out).mono ?_
        rintro e w6 ⟨rfl, hb6⟩
        have HTW6 := Lib.hid (Rp.ext namesRp HTW.out hb6)
        have HB6 := Lib.hid (HB8.out.trans (hb6.mono HB8.out.size))
        have lt6 : wr.heap.size < w6.heap.size := by have := hb6.size; omega
        have d0 : w6.cell? ⟨wr.heap.size, 0, none⟩ = some (.string (bstr x.name)) := (hb6.cell lt8).trans d0
        have d1 : w6.cell? ⟨wr.heap.size, 1, none⟩ = some (.slice Ap x.people.length cp) := (hb6.cell lt8).trans d1
        have d2 : w6.cell? ⟨wr.heap.size, 2, none⟩ = some (.slice At x.teams.length ct) := (hb6.cell lt8).trans d2
        clear hb6
        clear HPW HTW
        generalize namesFault x.people = nf at *
        by_cases hnf : nf = 0
        case neg =>
          have HF : Hid (teamsFault l = nf) := Lib.hid (F1.out _ (HR3.out.trans (if_pos hnf)) hnf)
          have hb : (nf != 0) = true := by simpa using hnf
          clear hnf HR3 F1 G5
          go_wp2_with fail
          go_ret
          exact ⟨by rw [HF.out]; rfl, (HB6.out)⟩
        have hb : (nf != 0) = false := by simpa using hnf
        have HR4 : Hid (teamF l (m + 1) = namesFault x.teams) := Lib.hid (HR3.out.trans (if_neg (fun e => e hnf)))
        clear HR3
        subst hnf
        go_wp2_with fail
        refine (checkMembers_any _ x.teams _ HTW6.out).mono ?_
        rintro e w7 ⟨rfl, hb7⟩
        have HB7 := Lib.hid (HB6.out.trans (hb7.mono HB6.out.size))
        have lt7 : wr.heap.size < w7.heap.size := by have := hb7.size; omega
        have d0 : w7.cell? ⟨wr.heap.size, 0, none⟩ = some (.string (bstr x.name)) := (hb7.cell lt6).trans d0
        have d1 : w7.cell? ⟨wr.heap.size, 1, none⟩ = some (.slice Ap x.people.length cp) := (hb7.cell lt6).trans d1
        have d2 : w7.cell? ⟨wr.heap.size, 2, none⟩ = some (.slice At x.teams.length ct) := (hb7.cell lt6).trans d2
        clear hb7
        clear HTW6
        generalize namesFault x.teams = ng at *
        by_cases hng : ng = 0
        case neg =>
          have HF : Hid (teamsFault l = ng) := Lib.hid (F1.out _ HR4.out hng)
          have hb : (ng != 0) = true := by simpa using hng
          clear hng HR4 F1 G5
          go_wp2_with fail
          go_ret
          exact ⟨by rw [HF.out]; rfl, (HB7.out)⟩
        subst hng
        have F5 := Lib.hid (G5.out HR4.out)
        clear HR4 F1 G5
        go_wp2_with fail
        go_roundw
        case rel => first | exact ⟨m + 1 + 1, by omega, by go_num, F5, HB7⟩ | (repeat (apply Exists.intro); (refine And.intro ?_ ?_; rotate_left; (repeat' (first | exact rfl | apply And.intro)); exact ⟨m + 1 + 1, by omega, by go_num, F5, HB7⟩))
        case measure => simp [intOf]; omega
    · obtain rfl : k = l.length := by omega
      have HTS := Lib.hid (tsorted_F HS.out)
      go_wp2_with fail
      go_loopw [67] (fun i wx => ∃ k : Nat, k ≤ l.length ∧ i = .int .i64 k ∧ Hid (∀ j, (hj : j < l.length) → j < k → unkT l l[j].teams = false) ∧ Hid (Below w.heap.size w wx)) (fun i _ => l.length - (intOf i).toNat)
      case atStart => exact ⟨0, by omega, rfl, (fun j _ hj => absurd hj (by omega)), HB⟩
      case round =>
        clear HB
        obtain ⟨k, hk, rfl, HU, HB⟩ := hrel
        by_cases hlt : k < l.length
        · obtain ⟨ad, cc, Ap, cp, At, ct, e1, hadb, c0, c1, c2, hz, hp, ht⟩ := team_at (Rp.below _ H1.out HB.out) hlt
          injection e1 with e1 _ e2
          subst e1 e2
          have HTT := Lib.hid ht
          have HY : Hid (unkT l l[k].teams = true → teamsFault l = 9) := Lib.hid (fun h => teams_3 h5 HS.out (unk_yes hlt h))
          have HN : Hid (unkT l l[k].teams = false → ∀ j, (hj : j < l.length) → j < k + 1 → unkT l l[j].teams = false) := Lib.hid (fun h j hj hjk => by
            by_cases e : j = k
            · subst e; exact h
            · exact HU.out j hj (by omega))
          clear hp ht
          generalize l[k] = x at *
          have HB4 := Lib.hid (HB.out.alloc HB.out.size (.cells #[.string (bstr x.name), .slice Ap x.people.length cp, .slice At x.teams.length ct] 69))
          have hkb := Blk.new wr 69 [.string (bstr x.name), .slice Ap x.people.length cp, .slice At x.teams.length ct]
          have d2 : _ = some (Value.slice At x.teams.length ct) := hkb.cell 2
          clear hkb
          generalize hts : x.teams = ts at *
          obtain ⟨wo, rfl⟩ : ∃ wo : World, wo = wr := ⟨_, rfl⟩
          have hctl : ts.length ≤ 9223372036854775807 := by
            obtain ⟨_, _, e, q1, q2, _⟩ := names_open HTT.out
            unfold maxLen at q2
            omega
          go_wp2_with fail
          go_loopw [74] (fun i wx => ∃ m : Nat, m ≤ ts.length ∧ i = .int .i64 m ∧ Hid (∀ y ∈ ts.take m, decide (teamIdx l y < 0) = false) ∧ Hid (Below wo.heap.size wo wx)) (fun i _ => ts.length - (intOf i).toNat)
          case atStart => exact ⟨0, by omega, rfl, by simp [Hid], (Below.refl _ _).alloc (Nat.le_refl _) _⟩
          case round =>
            obtain ⟨m, hm, rfl, HI, HBX⟩ := hrel
            have HBWR := Lib.hid (HB.out.trans (HBX.out.mono HB.out.size))
            by_cases hml : m < ts.length
            · obtain ⟨at_, cc, e1, hatb, p0, hzs⟩ := names_at (namesRp.keep HTT.out (fun g hg => HBX.out.block g (Nat.lt_of_lt_of_le hg HB.out.size)) (fun _ h => h)) hml
              injection e1 with e1 _ e2
              subst e1 e2
              have HCA := Lib.hid (teamOf_any _ l ts[m] wr (Rp.ext _ H1.out HBWR.out))
              have HYY : Hid (teamIdx l ts[m] < 0 → unkT l ts = true) := Lib.hid (fun h => by
                unfold unkT
                rw [List.any_eq_true]
                exact ⟨ts[m], List.getElem_mem hml, decide_eq_true h⟩)
              have HNN : Hid (0 ≤ teamIdx l ts[m] → ∀ y ∈ ts.take (m + 1), decide (teamIdx l y < 0) = false) := Lib.hid (fun h y hy => by
                rcases take_one hml hy with e | e
                · exact HI.out y e
                · rw [e]; exact decide_eq_false (Int.not_lt.2 h))
              generalize ts[m] = z at *
              go_wp2_with fail
              refine HCA.out.mono ?_
              rintro e w5 ⟨rfl, hb5⟩
              have HB5 := Lib.hid (HBX.out.trans (hb5.mono HBX.out.size))
              clear hb5 p0 HCA
              generalize teamIdx l z = ix at *
              by_cases hq : ix < 0
              · have HF := Lib.hid (HY.out (HYY.out hq))
                have HBF := Lib.hid (HB.out.trans (HB5.out.mono HB.out.size))
                clear HY HN HYY HNN
                go_wp2_with fail
                go_ret
                exact ⟨by rw [HF.out]; rfl, HBF.out⟩
              · have F5 := Lib.hid (HNN.out (Int.not_lt.1 hq))
                clear HYY HNN
                go_wp2_with fail
                go_roundw
                case rel => first | exact ⟨m + 1, by omega, by go_num, F5, HB5⟩ | (repeat (apply Exists.intro); (refine And.intro ?_ ?_; rotate_left; (repeat' (first | exact rfl | apply And.intro)); exact ⟨m + 1, by omega, by go_num, F5, HB5⟩))
                case measure => simp [intOf]; omega
            · have HNU : Hid (unkT l ts = false) := Lib.hid (by
                unfold unkT
                rw [List.any_eq_false]
                intro y hy
                rw [HI.out y (by rw [List.take_of_length_le (by omega)]; exact hy)]; decide)
              have F5 := Lib.hid (HN.out HNU.out)
              obtain rfl : m = ts.length := by omega
              go_wp2_with fail
              go_roundw
              case rel => first | exact ⟨k + 1, by omega, by go_num, F5, HBWR⟩ | (repeat (apply Exists.intro); (refine And.intro ?_ ?_; rotate_left; (repeat' (first | exact rfl | apply And.intro)); exact ⟨k + 1, by omega, by go_num, F5, HBWR⟩))
              case measure => simp [intOf]; omega
        · obtain rfl : k = l.length := by omega
          have HUN := Lib.hid (unk_no (fun j hj => HU.out j hj hj))
          have HTG := Lib.hid (tgood_of h5 HS.out HUN.out)
          clear HU
          go_wp2_with fail
          go_loopw [86] (fun i wx => ∃ k : Nat, k ≤ l.length ∧ i = .int .i64 k ∧ Hid (∀ j, j < k → ¬ Reach l j j) ∧ Hid (Below w.heap.size w wx)) (fun i _ => l.length - (intOf i).toNat)
          case atStart => exact ⟨0, by omega, rfl, (fun j hj => absurd hj (by omega)), HB⟩
          case round =>
            clear HB
            obtain ⟨k, hk, rfl, HL, HB⟩ := hrel
            by_cases hlt : k < l.length
            · have hltI : (k : Int) < (l.length : Int) := by omega
              have hk0 : (0 : Int) ≤ (k : Int) := by omega
              go_wp2_with fail
              refine (below_any _ l k wr (Rp.ext _ H1.out HB.out) HTG.out hlt).mono ?_
              rintro e w5 ⟨vb, ys, rfl, hown, hyl, hre, hb5⟩
              have HB5 := Lib.hid (HB.out.trans (hb5.mono HB.out.size))
              have HRD : Hid ((Rp.sl (Rp.int .i64)).ok w5 (· < w5.heap.size) [vb] (ints ys)) := Lib.hid (Rp.int_own hown (fun x hx => by
                unfold ints at hx
                obtain ⟨y, hy, rfl⟩ := List.mem_map.1 hx
                have h2 := reach_lt ((hre y).1 hy)
                simp [Lit.wf, IntKind.min, IntKind.max, IntKind.signed, IntKind.bits]
                omega) (fun g hg => (hown.lt g hg).2))
              have HRE := Lib.hid (hre k)
              clear hown hyl hre hb5
              go_wp2_with fail
              refine (containsInt_any _ (ints ys) (k : Int) w5 _ HRD.out).mono ?_
              rintro e w6 ⟨rfl, rfl⟩
              by_cases hq : k ∈ ys
              · have HF := Lib.hid (teams_4 h5 HS.out HUN.out ⟨k, hlt, HRE.out.1 hq⟩)
                rw [decide_eq_true (mem_ints.2 hq)]
                clear hq HRE
                go_wp2_with fail
                go_ret
                exact ⟨by rw [HF.out]; rfl, HB5.out⟩
              · have HNR : Hid (¬ Reach l k k) := Lib.hid (fun e => hq (HRE.out.2 e))
                have F5 : Hid (∀ j, j < k + 1 → ¬ Reach l j j) := Lib.hid (fun j hj => by
                  by_cases e : j = k
                  · subst e; exact HNR.out
                  · exact HL.out j (by omega))
                rw [decide_eq_false (fun e => hq (mem_ints.1 e))]
                clear hq HRE
                go_wp2_with fail
                go_roundw
                case rel => first | exact ⟨k + 1, by omega, by go_num, F5, HB5⟩ | (repeat (apply Exists.intro); (refine And.intro ?_ ?_; rotate_left; (repeat' (first | exact rfl | apply And.intro)); exact ⟨k + 1, by omega, by go_num, F5, HB5⟩))
                case measure => simp [intOf]; omega
            · obtain rfl : k = l.length := by omega
              have HF := Lib.hid (teams_5 h5 HS.out HUN.out (fun ⟨i, hi, hr⟩ => HL.out i hi hr))
              go_wp2_with fail
              go_ret
              exact ⟨by rw [HF.out]; rfl, HB.out⟩
end Go.Proofs.YtdljgjlkfihjdaaGreatDoor
