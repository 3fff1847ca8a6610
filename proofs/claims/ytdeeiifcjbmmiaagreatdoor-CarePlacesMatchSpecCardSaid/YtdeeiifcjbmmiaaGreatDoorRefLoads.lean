/-
  Loads of the reference of chapter 11.
-/
import Derived.Test.YtdeeiifcjbmmiaaGreatDoorLoads
namespace Go.Proofs.YtdeeiifcjbmmiaaGreatDoor
open Go.RowKit
set_option linter.unusedVariables false
set_option linter.unusedSimpArgs false

def cntRow (s : List Site) (ks : List (List UInt8)) : List Value := s.map fun x => .int .i64 (ks.count x.name : Int)
theorem cntRow_len (s : List Site) (ks : List (List UInt8)) : (cntRow s ks).length = s.length := List.length_map _
theorem cntRow_at (s : List Site) (ks : List (List UInt8)) {i : Nat} (hi : i < s.length) : (cntRow s ks)[i]? = some (.int .i64 (ks.count s[i].name : Int)) := by
  unfold cntRow
  rw [List.getElem?_map, List.getElem?_eq_getElem hi]; rfl
theorem cntRow_put {s : List Site} (hs : SOk s) (ks : List (List UInt8)) {i : Nat} (hi : i < s.length) {x : List UInt8} (hx : s[i].name = x) : (cntRow s ks).set i (.int .i64 ((ks.count x : Int) + 1)) = cntRow s (ks ++ [x]) := by
  refine List.ext_getElem? fun j => ?_
  by_cases hj : j < s.length
  · rw [cntRow_at s _ hj, List.count_append, List.count_singleton]
    by_cases e : i = j
    · subst e
      rw [List.getElem?_set_self (by rw [cntRow_len]; exact hi), hx]
      simp
    · rw [List.getElem?_set_ne e, cntRow_at s _ hj, show (x == s[j].name) = false from by
        rw [beq_eq_false_iff_ne, ← hx]
        exact fun h => e (sok_inj hs hi hj h)]
      simp
  · rw [List.getElem?_eq_none (by rw [List.length_set, cntRow_len]; omega), List.getElem?_eq_none (by rw [cntRow_len]; omega)]
theorem cntRow_nil (s : List Site) : cntRow s [] = List.replicate s.length (.int .i64 0) := by
  unfold cntRow
  rw [show (fun x : Site => Value.int .i64 ((List.count x.name ([] : List (List UInt8)) : Nat) : Int)) = fun _ => .int .i64 0 from by funext x; rfl, List.map_const']
def ZerosP (n : Nat) (z : Value) (e : TypeId) : Obj := .cells (List.replicate n z).toArray e
theorem madeCells_oneP (z : Value) (hz : z.cells = #[z]) (n : Nat) : madeCells z.cells n = (List.replicate n z).toArray := by
  rw [hz]
  apply Array.ext
  · simp [madeCells]
  · intro i h1 h2
    simp [madeCells, Nat.mod_one]
theorem run_makeP {P : Program} (w : World) (t e : TypeId) (z : Value) (bytes : Nat) (ht : P.underlying t = some (.slice e)) (hinfo : (P.info? e).map (fun i => (i.zero, i.size, i.bytes)) = some (some z, 1, bytes)) (hz : z.cells = #[z]) (n : Nat) (hn : bytes * n ≤ 281474976710656) (h63 : n ≤ 1000000000) (x : Int) (hx : x = n) :
    (Instr.makeSlice t (.int .i64 x) (.int .i64 x)).run P w = .ok (.slice (some ⟨w.heap.size, 0, none⟩) n n) (w.alloc (ZerosP n z e)) := by
  subst hx
  obtain ⟨i, hi, hz', h1, h2⟩ := info_parts hinfo
  have hb : (i.bytes : Int) * (n : Int) ≤ 281474976710656 := by rw [h2]; have : ((bytes * n : Nat) : Int) ≤ 281474976710656 := by omega
                                                                rwa [Int.natCast_mul] at this
  have := run_make (P := P) w t e i z ht hi hz' .i64 .i64 n n (by omega) (Int.le_refl _) hb (by omega)
  rw [this, h1, Int.toNat_natCast, Nat.mul_one, madeCells_oneP z hz]; rfl
theorem it_infoP : (Tryz.prog.info? 3).map (fun i => (i.zero, i.size, i.bytes)) = some (some (.int .i64 0), 1, 8) := by kernel_rfl
theorem set_grownP (w : World) (mb i : Nat) (v : Value) : w.grownBy (w.setCell ⟨mb, i, none⟩ v) (some mb) :=
  ⟨rfl, rfl, rfl, by simp [World.setCell], fun k hk hne => heap_setCell_other _ _ _ _ (fun e => hne (by rw [e]))⟩
theorem site_hit {s : List Site} (hs : SOk s) {it : List UInt8} {M : Nat} {x : List UInt8} (hx : x ∈ plL s it M) : ∃ i : Nat, ∃ hi : i < s.length, siteIdx s x = i ∧ s[i].name = x := by
  rcases siteIdx_range s x with ⟨_, h⟩ | ⟨i, hi, h1, h2⟩
  · obtain ⟨y, hy, e⟩ := plL_mem hs hx
    exact absurd e (h y hy)
  · exact ⟨i, hi, h1, h2⟩
set_option maxRecDepth 100000 in
set_option maxHeartbeats 8000000 in
theorem refLoads_any (v0 : Value) (s : List Site) (v1 : Value) (its : List (List UInt8)) (many : Int) (w : World) (h0 : (Rp.sl siteRp).ok w (· < w.heap.size) [v0] s) (h1 : namesRp.ok w (· < w.heap.size) [v1] its) :
    Calls Tryz.prog 9 #[v0, v1, .int .i64 many] w (LdPost s its many w) := by
  obtain ⟨A, cc, rfl, hl, hc, _⟩ := Rp.sl_open h0
  obtain ⟨A1, c1, rfl, hl1, hc1, _⟩ := names_open h1
  unfold maxLen at hc hc1
  have H0 := Lib.hid h0
  have H1 := Lib.hid h1
  clear h0 h1
  go_enter Tryz.func9, Tryz.ntmps9
  go_wp2_with fail
  refine (refCheckSites_any _ s w H0.out).mono ?_
  rintro e w1 ⟨rfl, hb⟩
  have HB1 := Lib.hid hb
  clear hb
  by_cases ha : sitesFault s = 0
  case neg =>
    have HF : Hid (ldFault s its many = sitesFault s) := Lib.hid (ldF_1 ha)
    have HN := Lib.hid ha
    have hn : (sitesFault s != 0) = true := by simpa using ha
    clear ha
    generalize sitesFault s = ff at *
    go_wp2_with fail
    go_ret2
    exact LdPost.bad HF.out HN.out HB1.out
  have HOK := Lib.hid (sok_of ha)
  have hsl := HOK.out.few
  have HRM := Lib.hid (sites_room ha)
  have HF2 := Lib.hid (ldF_2 (its := its) (many := many) ha)
  rw [ha]
  clear ha
  go_wp2_with fail
  refine (refCheckItems_any _ its many _ (Rp.ext _ H1.out HB1.out)).mono ?_
  rintro e w2 ⟨rfl, hb⟩
  have HB2 := Lib.hid (below_tr2 HB1.out hb HB1.out.size)
  clear hb HB1
  by_cases ha : itemsFault its many = 0
  case neg =>
    have HF : Hid (ldFault s its many = itemsFault its many) := HF2
    have HN := Lib.hid ha
    have hn : (itemsFault its many != 0) = true := by simpa using ha
    clear ha
    generalize itemsFault its many = ff at *
    go_wp2_with fail
    go_ret2
    exact LdPost.bad HF.out HN.out HB2.out
  have HF : Hid (ldFault s its many = 0) := Lib.hid (HF2.out.trans ha)
  have hok := items_ok ha
  have HNI : Hid (∀ x ∈ its, x.length ≤ 40) := Lib.hid (fun x hx => nm_len40 (hok.2.2.1 x hx))
  obtain ⟨M, rfl⟩ : ∃ M : Nat, many = (M : Int) := ⟨many.toNat, by omega⟩
  rw [ha]
  clear ha HF2
  have hm1 : 1 ≤ M := by omega
  have hm2 : M ≤ 50 := by omega
  have hi3 : its.length ≤ 3000 := hok.1
  clear hok
  have hmk : ∀ W : World, (Instr.makeSlice 49 (.int .i64 (s.length : Int)) (.int .i64 (s.length : Int))).run Tryz.prog W = .ok (.slice (some ⟨W.heap.size, 0, none⟩) s.length s.length) (W.alloc (ZerosP s.length (.int .i64 0) 3)) :=
    fun W => run_makeP W 49 3 _ 8 Tryz.underlying49 it_infoP rfl s.length (by omega) (by omega) _ rfl
  have HBM := Lib.hid ((Below.refl w2.heap.size w2).alloc (Nat.le_refl _) (ZerosP s.length (.int .i64 0) 3))
  have HM0 : Hid (Blk (w2.alloc (ZerosP s.length (.int .i64 0) 3)) w2.heap.size 3 (cntRow s [])) := Lib.hid (by rw [cntRow_nil]; exact heap_alloc_new w2 _)
  go_wp2_with fail
  clear hmk
  obtain ⟨mb, hmb⟩ : ∃ mb, mb = w2.heap.size := ⟨_, rfl⟩
  have HMB := Lib.hid (show w2.heap.size ≤ mb by omega)
  rw [← hmb] at HM0 ⊢
  clear hmb
  go_loopw [34] (fun vi wr => ∃ (k : Nat), k ≤ its.length ∧ vi = .int .i64 k ∧ Hid (Blk wr mb 3 (cntRow s (plAll s (its.take k) M))) ∧ Hid (Below w2.heap.size w2 wr)) (fun vi _ => its.length - (intOf vi).toNat)
  case atStart => exact ⟨0, Nat.zero_le _, rfl, HM0, HBM⟩
  case round =>
    clear HM0 HBM
    obtain ⟨k, hk, rfl, HM, HB⟩ := hrel
    by_cases hlt : k < its.length
    · obtain ⟨ad, c', e1, hadb, c0, hz⟩ := names_at (namesRp.below H1.out (HB2.out.trans (HB.out.mono HB2.out.size))) hlt
      cases e1
      have hil : its[k].length ≤ 40 := HNI.out _ (List.getElem_mem hlt)
      have HNX := Lib.hid (plAll_next s its M hlt)
      have hbl := plAll_len s M hm2 (its.take k)
      rw [List.length_take, Nat.min_eq_left hk] at hbl
      generalize plAll s (its.take k) M = ks at *
      generalize hx : its[k] = it at *
      clear hx hz
      go_wp2_with fail
      refine (refPlaces_any _ s it M wr (Rp.ext _ H0.out (HB2.out.trans (HB.out.mono HB2.out.size))) HOK.out.nm HOK.out.pos HOK.out.few hm1 hm2 (by omega)).mono ?_
      rintro e w5 ⟨v5, rfl, hO, hb5⟩
      have HB5 := Lib.hid (HB.out.trans (hb5.mono HB.out.size))
      have HM5 := Lib.hid (HM.out.same (same_below hb5) HM.out.lt)
      have HPI : Hid (∀ x ∈ plL s it M, ∃ i : Nat, ∃ hi : i < s.length, siteIdx s x = i ∧ s[i].name = x) := Lib.hid (fun x hx => site_hit HOK.out hx)
      have HGE := Lib.hid (show mb < wr.heap.size from HM.out.lt)
      have HPM : Hid (∀ x ∈ plL s it M, x.length ≤ maxLen) := Lib.hid (fun x hx => by obtain ⟨y, hy, rfl⟩ := plL_mem HOK.out hx; have := HOK.out.nm y hy; unfold maxLen; omega)
      have hpl := plL_len s it M
      generalize plL s it M = ps at *
      have HO5 := Lib.hid hO
      obtain ⟨A5, c5, hv5, hlc5, hcm5, _⟩ := own_form hO
      subst hv5
      unfold maxLen at hcm5
      clear hO hb5 HB HM c0
      go_wp2_with fail
      obtain ⟨wb, hwb⟩ : ∃ wb, wb = wr := ⟨_, rfl⟩
      subst hwb
      go_loopw [43] (fun vj wq => ∃ (j : Nat), j ≤ ps.length ∧ vj = .int .i64 j ∧ Hid (Blk wq mb 3 (cntRow s (ks ++ ps.take j))) ∧ Hid (wq.ownsRow wb.heap.size 9 1 (.slice A5 ps.length c5) ps.length (ps.map fun t => .string (bstr t))) ∧ Hid (Below w2.heap.size w2 wq)) (fun vj _ => ps.length - (intOf vj).toNat)
      case atStart => exact ⟨0, Nat.zero_le _, rfl, by rw [List.take_zero, List.append_nil]; exact HM5, HO5, HB5⟩
      case round =>
        clear HM5 HB5 HO5
        obtain ⟨j, hj, rfl, HM6, HO6, HB6⟩ := hrel
        by_cases hjl : j < ps.length
        · obtain ⟨ad6, c6, e6, _, c0, hz⟩ := names_at (l := ps) (names_own2 HO6.out HPM.out) hjl
          cases e6
          obtain ⟨ix, hix, hidx, hnm⟩ := HPI.out _ (List.getElem_mem hjl)
          have HTN := Lib.hid (cntRow_put HOK.out (ks ++ ps.take j) hix hnm)
          have hc6 := cntRow_at s (ks ++ ps.take j) hix
          rw [hnm] at hc6
          have HTK : Hid (ks ++ ps.take (j + 1) = ks ++ ps.take j ++ [ps[j]]) := Lib.hid (by rw [List.take_succ_eq_append_getElem hjl, List.append_assoc])
          have hcl := List.count_le_length (a := ps[j]) (l := ks ++ ps.take j)
          rw [List.length_append, List.length_take, Nat.min_eq_left hj] at hcl
          generalize hx : ps[j] = x at *
          generalize (ks ++ ps.take j).count x = cn at *
          have hov : IntKind.i64.wrap ((cn : Int) + 1) = (cn : Int) + 1 := IntWalk.i64_in _ (by omega)
          have HIDX := Lib.hid hidx
          have HC6 := Lib.hid hc6
          clear hx hz hidx hnm hc6
          go_wp2_with fail
          refine (siteOf_any _ s x _ (Rp.ext _ H0.out (HB2.out.trans (HB6.out.mono HB2.out.size)))).mono ?_
          rintro e w7 ⟨rfl, hb7⟩
          rw [HIDX.out]
          have HM7 := Lib.hid (HM6.out.same (same_below hb7) HM6.out.lt)
          have HO7 := Lib.hid (own_blwP HO6.out hb7)
          have HB7 := Lib.hid (HB6.out.trans (hb7.mono HB6.out.size))
          clear hb7 HM6 HO6 HB6 c0
          have hlk : w7.cell? ⟨mb, ix, none⟩ = some (.int .i64 (cn : Int)) := (HM7.out.cell ix).trans HC6.out
          have hfz : w7.frozen? ⟨mb, ix, none⟩ = false := HM7.out.frozen ix
          have hm0 : (0 : Int) ≤ (ix : Int) := by omega
          have hmL : (ix : Int) < (s.length : Int) := by omega
          go_wp2_with fail
          have HG8 := Lib.hid (set_grownP w7 mb ix (.int .i64 ((cn : Int) + 1)))
          have HM8 := Lib.hid (HM7.out.set_ ix (.int .i64 ((cn : Int) + 1)))
          have HO8 := Lib.hid (own_keptP HO7.out HG8.out (fun e => by have := (HO7.out.lt _ e).1; have := HGE.out; omega))
          have HB8 := Lib.hid (HB7.out.grown HG8.out HB7.out.size (fun j e => by cases e; exact HMB.out))
          rw [HTN.out] at HM8
          clear hlk hfz hm0 hmL HM7 HO7 HB7 HG8
          generalize w7.setCell ⟨mb, ix, none⟩ (.int .i64 ((cn : Int) + 1)) = w8 at *
          go_roundw
          case rel => exact ⟨j + 1, by omega, by go_num, by rw [HTK.out]; exact HM8, HO8, HB8⟩
          case measure => simp [intOf]; omega
        · have HTE : Hid (Blk wr mb 3 (cntRow s (plAll s (its.take (k + 1)) M))) := Lib.hid (by
            have h := HM6.out
            rw [List.take_of_length_le (by omega)] at h
            rw [HNX.out]; exact h)
          clear HM6
          go_wp2_with fail
          go_roundw
          case rel => exact ⟨k + 1, by omega, by go_num, HTE, HB6⟩
          case measure => simp [intOf]; omega
    · have HKA : Hid (its.take k = its) := Lib.hid (List.take_of_length_le (by omega))
      rw [HKA.out] at HM
      have hkl := plAll_len s M hm2 its
      clear HKA
      obtain ⟨ks, hks⟩ : ∃ ks, plAll s its M = ks := ⟨_, rfl⟩
      have HKS := Lib.hid hks
      rw [hks] at HM hkl
      clear hks
      go_wp2_with fail
      obtain ⟨wb, hwb⟩ : ∃ wb, wb = wr := ⟨_, rfl⟩
      subst hwb
      go_loopw [15, 59] (fun vo vk wz => ∃ k : Nat, k ≤ s.length ∧ vk = .int .i64 k ∧ Hid (wz.ownsRow wb.heap.size 33 3 vo k ((ldOut (s.take k) ks).flatMap siteCells)) ∧ Hid (Below wb.heap.size wb wz)) (fun _ vk _ => s.length - (intOf vk).toNat)
      case atStart => exact ⟨0, Nat.zero_le _, rfl, by rw [List.take_zero]; exact Lib.hid (World.ownsRow_nil _ _ _ _), Below.refl _ _⟩
      case round =>
        obtain ⟨k, hk, rfl, HO, HBZ⟩ := hrel
        by_cases hkl2 : k < s.length
        · obtain ⟨ad, c0, hv, _, q0, q1, q2, hz⟩ := site_at (Rp.ext _ H0.out ((HB2.out.trans (HB.out.mono HB2.out.size)).trans (HBZ.out.mono (Nat.le_trans HB2.out.size HB.out.size)))) hkl2
          cases hv
          have HNX := Lib.hid (ldOut_next s ks hkl2)
          have hrm := HRM.out _ (List.getElem_mem hkl2)
          have hcl := List.count_le_length (a := s[k].name) (l := ks)
          have hlo : ldOf ks s[k] = ⟨s[k].name, (ks.count s[k].name : Int), max 0 ((ks.count s[k].name : Int) - s[k].room)⟩ := rfl
          rw [hlo] at HNX
          have HMZ := Lib.hid (HM.out.same (same_below HBZ.out) HM.out.lt)
          have HMA := Lib.hid (HMZ.out.same (same_below ((Below.refl wr.heap.size wr).alloc (Nat.le_refl _) (.cells #[.string (bstr s[k].name), .int .i64 s[k].weight, .int .i64 s[k].room] 48))) HMZ.out.lt)
          have hlk := (HMA.out.cell k).trans (cntRow_at s ks hkl2)
          generalize hx : s[k] = x at *
          generalize ks.count x.name = cn at *
          have hov : IntKind.i64.wrap ((cn : Int) - x.room) = (cn : Int) - x.room := IntWalk.i64_in _ (by omega)
          have HBA := Lib.hid (HBZ.out.alloc HBZ.out.size (.cells #[.string (bstr x.name), .int .i64 x.weight, .int .i64 x.room] 48))
          have HOA := Lib.hid (HO.out.alloc (.cells #[.string (bstr x.name), .int .i64 x.weight, .int .i64 x.room] 48))
          have HKX : Hid (Blk (wr.alloc (.cells #[.string (bstr x.name), .int .i64 x.weight, .int .i64 x.room] 48)) wr.heap.size 48 [.string (bstr x.name), .int .i64 x.weight, .int .i64 x.room]) := Lib.hid (Blk.new wr _ _)
          have hbz := HBA.out.size
          have r0 : _ = some (Value.string (bstr x.name)) := HKX.out.cell 0
          have r2 : _ = some (Value.int .i64 x.room) := HKX.out.cell 2
          clear hx hlo HO HBZ HMZ HMA
          have hm0 : (0 : Int) ≤ (k : Int) := by omega
          have hmL : (k : Int) < (s.length : Int) := by omega
          go_wp2_with fail
          go_region_law (first | (refine step_app_new (w := wr.alloc (.cells #[.string (bstr x.name), .int .i64 x.weight, .int .i64 x.room] 48)) (by rfl) (.tmp 64) (.tmp 80) 28 (by rfl) 33 (.agg #[.string ⟨#[]⟩, .int .i64 0, .int .i64 0]) 3 32 Tryz.underlying28 ld_info rfl (by decide) (m := 1) [.string (bstr x.name), .int .i64 (cn : Int), .int .i64 (max 0 ((cn : Int) - x.room))] 1 (by rfl) HOA.out hbz (by rfl) (by rw [World.size_alloc]; rfl) (by rfl) (by decide) (by simp [Value.oneCell']) (by unfold maxLen; omega) (by omega) ?_; intro g4 c4 w4 HB4 HG4 HD4 HL4) | fail)
          all_goals
            simp only [List.getElem_toArray, List.getElem_cons_succ, List.getElem_cons_zero, Act.put, List.setIfInBounds_toArray, List.set_cons_succ, List.set_cons_zero]
            go_wp2_with fail
            have HO5 : Hid (w4.ownsRow wb.heap.size 33 3 (.slice (some ⟨g4, 0, none⟩) (k + 1) c4) (k + 1) ((ldOut (s.take (k + 1)) ks).flatMap siteCells)) := Lib.hid (by
              rw [HNX.out]; exact HB4.out)
            go_roundw
            case rel => exact ⟨k + 1, by omega, by go_num, HO5, HD4.out _ HBA.out⟩
            case measure => simp [intOf]; omega
        · have HPP : Hid (LdPost s its (M : Int) w (.returned (.tuple #[u15, .int .i64 0])) wr) := Lib.hid (by
            have h := HO.out
            rw [List.take_of_length_le (by omega), ← HKS.out] at h
            exact LdPost.good HOK.out HRM.out hm2 hi3 HF.out h ((HB2.out.trans (HB.out.mono HB2.out.size)).trans (HBZ.out.mono (Nat.le_trans HB2.out.size HB.out.size))))
          go_wp2_with fail
          go_ret2
          exact HPP.out
end Go.Proofs.YtdeeiifcjbmmiaaGreatDoor
