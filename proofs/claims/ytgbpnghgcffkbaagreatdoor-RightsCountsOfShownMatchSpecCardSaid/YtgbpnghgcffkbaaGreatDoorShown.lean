/-
  What was shown: how it reads; 'CheckShown' of package rights and of the reference of chapter 10.
-/
import Derived.Test.YtgbpnghgcffkbaaGreatDoorConc
import Derived.Test.YtgbpnghgcffkbaaGreatDoorFirstF
namespace Go.Proofs.YtgbpnghgcffkbaaGreatDoor
open Go.RowKit
set_option linter.unusedVariables false
set_option linter.unusedSimpArgs false

structure Shn where
  at_ : Int
  who : List UInt8
  house : Bool
  key : List UInt8
  time : Int
deriving Inhabited
def shnCells (x : Shn) : List Value := [.int .i64 x.at_, .string (bstr x.who), .bool x.house, .string (bstr x.key), .int .i64 x.time]
def shnRp : Rp Shn := (Rp.pair (Rp.int .i64) (Rp.pair Rp.str (Rp.pair Rp.bool (Rp.pair Rp.str (Rp.int .i64))))).via fun r => (r.at_, bstr r.who, r.house, bstr r.key, r.time)
theorem shn_open {w : World} {S : Nat → Prop} {us : List Value} {c : Shn} (h : shnRp.ok w S us c) : us = shnCells c ∧ (Lit.int .i64 c.at_).wf = true ∧ c.who.length ≤ maxLen ∧ c.key.length ≤ maxLen ∧ (Lit.int .i64 c.time).wf = true := by
  obtain ⟨_, _, rfl, ⟨rfl, h1⟩, ⟨_, _, rfl, ⟨rfl, h2⟩, ⟨_, _, rfl, h3, ⟨_, _, rfl, ⟨rfl, h4⟩, ⟨rfl, h5⟩⟩⟩⟩⟩ := h
  cases h3
  exact ⟨rfl, h1, h2, h4, h5⟩
def ShnOk (c : Shn) : Prop := (Lit.int .i64 c.at_).wf = true ∧ c.who.length ≤ maxLen ∧ c.key.length ≤ maxLen ∧ (Lit.int .i64 c.time).wf = true
theorem shn_mk {w : World} {S : Nat → Prop} {c : Shn} (h : ShnOk c) : shnRp.ok w S (shnCells c) c :=
  ⟨[_], [_, _, _, _], rfl, ⟨rfl, h.1⟩, ⟨[_], [_, _, _], rfl, ⟨rfl, h.2.1⟩, ⟨[_], [_, _], rfl, rfl, ⟨[_], [_], rfl, ⟨rfl, h.2.2.1⟩, ⟨rfl, h.2.2.2⟩⟩⟩⟩⟩
theorem opens_shn : Opens Tryz.prog 93 shnRp := by
  refine opens_via _ (fun (p : Int × ByteArray × Bool × ByteArray × Int) => ⟨p.1, p.2.1.data.toList, p.2.2.1, p.2.2.2.1.data.toList, p.2.2.2.2⟩) (fun p => by rw [bstr_eq, bstr_eq]) ?_
  refine opens_struct Tryz.underlying93 (by kernel_rfl) ?_
  refine opensF_cons (by rfl) (by kernel_rfl) (opens_int Tryz.underlying3) ?_
  refine opensF_cons (by rfl) (by kernel_rfl) (opens_str Tryz.underlying9) ?_
  refine opensF_cons (by rfl) (by kernel_rfl) (opens_bool Tryz.underlying4) ?_
  refine opensF_cons (by rfl) (by kernel_rfl) (opens_str Tryz.underlying9) ?_
  exact opensF_one (by rfl) (by kernel_rfl) (opens_int Tryz.underlying3)
theorem opens_shns : Opens Tryz.prog 45 (Rp.sl shnRp) := opens_sl Tryz.underlying45 (by kernel_rfl) (by decide) (of_decide_eq_true (by kernel_rfl)) opens_shn
theorem shn_at {w : World} {S : Nat → Prop} {v : Value} {l : List Shn} (h : (Rp.sl shnRp).ok w S [v] l) {k : Nat} (hk : k < l.length) :
    ∃ ad c, v = .slice (some ad) l.length c ∧ S ad.block ∧ w.cell? (ad.add (k * 5)) = some (.int .i64 l[k].at_) ∧ w.cell? ⟨(ad.add (k * 5)).block, (ad.add (k * 5)).off + 1, none⟩ = some (.string (bstr l[k].who)) ∧ w.cell? ⟨(ad.add (k * 5)).block, (ad.add (k * 5)).off + 2, none⟩ = some (.bool l[k].house) ∧ w.cell? ⟨(ad.add (k * 5)).block, (ad.add (k * 5)).off + 3, none⟩ = some (.string (bstr l[k].key)) ∧ w.cell? ⟨(ad.add (k * 5)).block, (ad.add (k * 5)).off + 4, none⟩ = some (.int .i64 l[k].time) ∧ ShnOk l[k] := by
  obtain ⟨A, c, rfl, _⟩ := Rp.sl_open h
  obtain ⟨ad, us, rfl, _, hb, hu, hcell⟩ := Rp.sl_at h hk
  obtain ⟨rfl, hz⟩ := shn_open hu
  have c0 := hcell 0 _ rfl
  have c1 := hcell 1 _ rfl
  have c2 := hcell 2 _ rfl
  have c3 := hcell 3 _ rfl
  have c4 := hcell 4 _ rfl
  rw [add_fld _ _ _ (by omega)] at c1 c2 c3 c4
  exact ⟨ad, c, rfl, hb, c0, c1, c2, c3, c4, hz⟩
theorem shns_read {w : World} {B : Nat} {v : Value} {l : List Shn} {n : Nat} (h : w.ownsRow B 93 5 v n (l.flatMap shnCells)) (hl : ∀ s ∈ l, ShnOk s) : (Rp.sl shnRp).ok w (· < w.heap.size) [v] l :=
  Rp.of_ownN (R := shnRp) (by decide) (fun _ => rfl) h (fun g hg => (h.lt g hg).2) (fun s hs => shn_mk (hl s hs))
/-- The fault of one that was shown, by itself. -/
def shn1F (x : Shn) : Int := if withinB x.at_ 0 253402300799 = false then 1 else if x.who ≠ [] ∧ isNm x.who = false then 5 else if capF ⟨x.key, x.time⟩ ≠ 0 then capF ⟨x.key, x.time⟩ else if x.at_ < x.time then 1 else 0
def shnF (l : List Shn) (i : Nat) : Int := if shn1F (l.getD i default) ≠ 0 then shn1F (l.getD i default) else if 0 < i ∧ (l.getD i default).at_ < (l.getD (i - 1) default).at_ then 8 else 0
def shownFault (l : List Shn) : Int := if 3000 < l.length then 2 else firstF (shnF l) l.length
section
variable {l : List Shn} {i : Nat}
theorem shnF_1 (hi : i < l.length) (h : shn1F l[i] ≠ 0) : shnF l i = shn1F l[i] := by rw [shnF, getD_at _ _ hi, if_pos h]
theorem shnF_2 (hi : i < l.length) (h : shn1F l[i] = 0) (h0 : 0 < i) (h1 : l[i].at_ < (l[i - 1]'(by omega)).at_) : shnF l i = 8 := by
  rw [shnF, getD_at _ _ hi, getD_at _ _ (show i - 1 < l.length by omega), if_neg (by rw [h]; decide), if_pos ⟨h0, h1⟩]
theorem shnF_3 (hi : i < l.length) (h : shn1F l[i] = 0) (h0 : ¬ (0 < i ∧ l[i].at_ < (l[i - 1]'(by omega)).at_)) : shnF l i = 0 := by
  rw [shnF, getD_at _ _ hi, getD_at _ _ (show i - 1 < l.length by omega), if_neg (by rw [h]; decide), if_neg h0]
theorem shownFault_at (h3 : ¬ 3000 < l.length) (hi : i < l.length) (hS : ∀ j, j < i → shnF l j = 0) {f : Int} (hf : shnF l i = f) (hn : f ≠ 0) : shownFault l = f := by
  rw [shownFault, if_neg h3, firstF_at hi hS (by rw [hf]; exact hn), hf]
theorem shownFault_ok (h3 : ¬ 3000 < l.length) (hS : ∀ j, j < l.length → shnF l j = 0) : shownFault l = 0 := by
  rw [shownFault, if_neg h3, firstF_ok hS]
end
set_option maxRecDepth 100000 in
set_option maxHeartbeats 400000 in
theorem captureOf_any (x : Shn) (w : World) : Calls Tryz.prog 96 #[.agg #[.int .i64 x.at_, .string (bstr x.who), .bool x.house, .string (bstr x.key), .int .i64 x.time]] w fun e w' => e = .returned (.agg #[.string (bstr x.key), .int .i64 x.time]) ∧ Below w.heap.size w w' := by
  have hl1 := (Below.refl w.heap.size w).alloc (Nat.le_refl _) (.cells #[.int .i64 x.at_, .string (bstr x.who), .bool x.house, .string (bstr x.key), .int .i64 x.time] 93)
  have hl2 := (Below.refl (w.alloc (.cells #[.int .i64 x.at_, .string (bstr x.who), .bool x.house, .string (bstr x.key), .int .i64 x.time] 93)).heap.size _).alloc (Nat.le_refl _) (.cells #[.string ⟨#[]⟩, .int .i64 0] 33)
  have HB := Lib.hid (hl1.trans (hl2.mono (by simp)))
  have HK := Lib.hid ((Blk.new w 93 (shnCells x)).same (same_below hl2) (by simp))
  have HC : Hid (Blk ((w.alloc (.cells #[.int .i64 x.at_, .string (bstr x.who), .bool x.house, .string (bstr x.key), .int .i64 x.time] 93)).alloc (.cells #[.string ⟨#[]⟩, .int .i64 0] 33)) (w.heap.size + 1) 33 [.string ⟨#[]⟩, .int .i64 0]) := Lib.hid (by
    have := Blk.new (w.alloc (.cells #[.int .i64 x.at_, .string (bstr x.who), .bool x.house, .string (bstr x.key), .int .i64 x.time] 93)) 33 [.string ⟨#[]⟩, .int .i64 0]
    rwa [World.size_alloc] at this)
  have m3 : ((w.alloc (.cells #[.int .i64 x.at_, .string (bstr x.who), .bool x.house, .string (bstr x.key), .int .i64 x.time] 93)).alloc (.cells #[.string ⟨#[]⟩, .int .i64 0] 33)).cell? ⟨w.heap.size, 3, none⟩ = some (.string (bstr x.key)) := HK.out.cell 3
  have m4 : ((w.alloc (.cells #[.int .i64 x.at_, .string (bstr x.who), .bool x.house, .string (bstr x.key), .int .i64 x.time] 93)).alloc (.cells #[.string ⟨#[]⟩, .int .i64 0] 33)).cell? ⟨w.heap.size, 4, none⟩ = some (.int .i64 x.time) := HK.out.cell 4
  have r0 := HC.out.cell 0
  have r1 := HC.out.cell 1
  change World.cell? _ _ = some (Value.string ⟨#[]⟩) at r0
  change World.cell? _ _ = some (Value.int .i64 0) at r1
  have z0 := HC.out.frozen 0
  have z1 := HC.out.frozen 1
  have HS := Lib.hid ((HC.out.set_ 0 (.string (bstr x.key))).set_ 1 (.int .i64 x.time))
  have hl3 := (Below.refl (w.alloc (.cells #[.int .i64 x.at_, .string (bstr x.who), .bool x.house, .string (bstr x.key), .int .i64 x.time] 93)).heap.size _).alloc (Nat.le_refl _) (.cells #[.string (bstr x.key), .int .i64 x.time] 33)
  have HBS := Lib.hid (hl1.trans (hl3.mono (by simp)))
  clear hl1 hl2 hl3
  go_enter Tryz.func96, Tryz.ntmps96
  go_wp2_with fail
  have u0 := HS.out.cell 0
  have u1 := HS.out.cell 1
  simp only [List.set_cons_zero, List.set_cons_succ, List.getElem?_cons_zero, List.getElem?_cons_succ] at u0 u1
  exact bodyPost_ret (v := .agg #[.string (bstr x.key), .int .i64 x.time]) (by simp [results, Tryz.results96, go_sem, u0, u1]) rfl ⟨rfl, HBS.out⟩
theorem hNameB_any (t : List UInt8) (w : World) (ht : t.length ≤ 9223372036854775807) :
    Calls Tryz.prog 58 #[.string (bstr t)] w fun e w' => e = .returned (.bool (isNm t)) ∧ Below w.heap.size w w' :=
  (hName_any t w ht).mono fun e w' ⟨h1, h2⟩ => ⟨h1, by rw [h2]; exact Below.refl _ _⟩
set_option maxRecDepth 100000 in
set_option maxHeartbeats 4000000 in
theorem checkShown_any (v : Value) (l : List Shn) (w : World) (h1 : (Rp.sl shnRp).ok w (· < w.heap.size) [v] l) :
    Calls Tryz.prog 47 #[v] w fun e w' => e = .returned (.int .i64 (shownFault l)) ∧ Below w.heap.size w w' := by
  obtain ⟨A, c, rfl, hl, hc, _⟩ := Rp.sl_open h1
  unfold maxLen at hc
  have H1 := Lib.hid h1
  clear h1
  by_cases h5 : 3000 < l.length
  · have HF : Hid (shownFault l = 2) := Lib.hid (if_pos h5)
    have h5' : (3000 : Int) < (l.length : Int) := by omega
    go_enter Tryz.func47, Tryz.ntmps47
    go_wp2_with fail
    go_ret
    exact ⟨by rw [HF.out]; rfl, Below.refl _ _⟩
  have h5' : ¬ (3000 : Int) < (l.length : Int) := by omega
  go_enter Tryz.func47, Tryz.ntmps47
  go_wp2_with fail
  go_loopw [11] (fun i wr => ∃ k : Nat, k ≤ l.length ∧ i = .int .i64 k ∧ Hid (∀ j, j < k → shnF l j = 0) ∧ Hid (Below w.heap.size w wr)) (fun i _ => l.length - (intOf i).toNat)
  case atStart => exact ⟨0, by omega, rfl, (fun j hj => absurd hj (by omega)), Below.refl _ _⟩
  case round =>
    obtain ⟨k, hk, rfl, HS, HB⟩ := hrel
    by_cases hlt : k < l.length
    · obtain ⟨ad, cc, e1, hadb, c0, c1, c2, c3, c4, hz⟩ := shn_at (Rp.below _ H1.out HB.out) hlt
      injection e1 with e1 _ e2
      subst e1 e2
      obtain ⟨_, hz2, hz3, _⟩ := hz
      unfold maxLen at hz2 hz3
      have hz2 : l[k].who.length ≤ 9223372036854775807 := by omega
      have hz3 : l[k].key.length ≤ 9223372036854775807 := by omega
      have F1 : Hid (∀ f, shn1F l[k] = f → f ≠ 0 → shownFault l = f) := Lib.hid (fun f h h0 => shownFault_at h5 hlt HS.out ((shnF_1 hlt (by rw [h]; exact h0)).trans h) h0)
      have G4 := Lib.hid (fun h h2 h3 => shownFault_at h5 hlt HS.out (shnF_2 hlt h h2 h3) (by decide))
      have G5 := Lib.hid (fun h h2 => firstF_step HS.out (shnF_3 hlt h h2))
      generalize hx : l[k] = x at *
      clear hx
      have HR : Hid (shn1F x = if withinB x.at_ 0 253402300799 = false then 1 else if x.who ≠ [] ∧ isNm x.who = false then 5 else if capF ⟨x.key, x.time⟩ ≠ 0 then capF ⟨x.key, x.time⟩ else if x.at_ < x.time then 1 else 0) := Lib.hid rfl
      have HB4 := Lib.hid (HB.out.alloc HB.out.size (.cells #[.int .i64 x.at_, .string (bstr x.who), .bool x.house, .string (bstr x.key), .int .i64 x.time] 93))
      have hkb := Blk.new wr 93 [.int .i64 x.at_, .string (bstr x.who), .bool x.house, .string (bstr x.key), .int .i64 x.time]
      have d0 : _ = some (Value.int .i64 x.at_) := hkb.cell 0
      have d1 : _ = some (Value.string (bstr x.who)) := hkb.cell 1
      have d2 : _ = some (Value.bool x.house) := hkb.cell 2
      have d3 : _ = some (Value.string (bstr x.key)) := hkb.cell 3
      have d4 : _ = some (Value.int .i64 x.time) := hkb.cell 4
      have lt4 : wr.heap.size < (wr.alloc (.cells #[.int .i64 x.at_, .string (bstr x.who), .bool x.house, .string (bstr x.key), .int .i64 x.time] 93)).heap.size := by simp
      clear hkb
      go_wp2_with fail
      generalize wr.alloc (.cells #[.int .i64 x.at_, .string (bstr x.who), .bool x.house, .string (bstr x.key), .int .i64 x.time] 93) = w4 at *
      refine (moment_any x.at_ _).mono ?_
      rintro e w4 ⟨rfl, rfl⟩
      cases q1 : withinB x.at_ 0 253402300799 with
      | false =>
        have HF : Hid (shownFault l = 1) := Lib.hid (F1.out _ (HR.out.trans (if_pos q1)) (by decide))
        clear q1
        go_wp2_with fail
        go_ret
        exact ⟨by rw [HF.out]; rfl, HB4.out⟩
      | true =>
      have HR1 : Hid (shn1F x = if x.who ≠ [] ∧ isNm x.who = false then 5 else if capF ⟨x.key, x.time⟩ ≠ 0 then capF ⟨x.key, x.time⟩ else if x.at_ < x.time then 1 else 0) := Lib.hid (HR.out.trans (if_neg (by rw [q1]; decide)))
      clear q1 HR
      by_cases hw : x.who = []
      · have he : (bstr x.who).toList.isEmpty = true := by rw [hw, bstr_toList]; rfl
        have HR2 : Hid (shn1F x = if capF ⟨x.key, x.time⟩ ≠ 0 then capF ⟨x.key, x.time⟩ else if x.at_ < x.time then 1 else 0) := Lib.hid (HR1.out.trans (if_neg (fun e => e.1 hw)))
        clear hw HR1
        go_wp2_with fail
        obtain ⟨w5, hw5⟩ : ∃ w5, w5 = w4 := ⟨_, rfl⟩
        have HB5 : Hid (Below w.heap.size w w5) := Lib.hid (by rw [hw5]; exact HB4.out)
        have lt5 : wr.heap.size < w5.heap.size := by rw [hw5]; exact lt4
        rw [← hw5] at d0 d1 d2 d3 d4 ⊢
        clear hw5 HB4
        refine (capture_any ⟨x.key, x.time⟩ _ hz3).mono ?_
        rintro e w6 ⟨rfl, hb6⟩
        have HB6 := Lib.hid (HB5.out.trans (hb6.mono HB5.out.size))
        have lt6 : wr.heap.size < w6.heap.size := by have := hb6.size; omega
        have d0 : w6.cell? ⟨wr.heap.size, 0, none⟩ = some (.int .i64 x.at_) := (hb6.cell lt5).trans d0
        have d1 : w6.cell? ⟨wr.heap.size, 1, none⟩ = some (.string (bstr x.who)) := (hb6.cell lt5).trans d1
        have d2 : w6.cell? ⟨wr.heap.size, 2, none⟩ = some (.bool x.house) := (hb6.cell lt5).trans d2
        have d3 : w6.cell? ⟨wr.heap.size, 3, none⟩ = some (.string (bstr x.key)) := (hb6.cell lt5).trans d3
        have d4 : w6.cell? ⟨wr.heap.size, 4, none⟩ = some (.int .i64 x.time) := (hb6.cell lt5).trans d4
        clear hb6
        generalize capF ⟨x.key, x.time⟩ = cf at *
        by_cases hcf : cf = 0
        case neg =>
          have HF : Hid (shownFault l = cf) := Lib.hid (F1.out _ (HR2.out.trans (if_pos hcf)) hcf)
          have HBX := Lib.hid (HB6.out.mono (Nat.le_refl _))
          have hb : (cf != 0) = true := by simpa using hcf
          clear hcf HR2
          go_wp2_with fail
          go_ret
          exact ⟨by rw [HF.out]; rfl, HB6.out⟩
        have hb : (cf != 0) = false := by simpa using hcf
        have HR3 : Hid (shn1F x = if x.at_ < x.time then 1 else 0) := Lib.hid (HR2.out.trans (if_neg (fun e => e hcf)))
        clear HR2
        subst hcf
        by_cases htm : x.at_ < x.time
        · have HF : Hid (shownFault l = 1) := Lib.hid (F1.out _ (HR3.out.trans (if_pos htm)) (by decide))
          go_wp2_with fail
          go_ret
          exact ⟨by rw [HF.out]; rfl, HB6.out⟩
        have H0 : Hid (shn1F x = 0) := Lib.hid (HR3.out.trans (if_neg htm))
        clear HR3 F1
        by_cases hk0 : k = 0
        · have F5 := Lib.hid (G5.out H0.out (fun h => absurd h.1 (by omega)))
          have hk0' : ¬ (0 : Int) < (k : Int) := by omega
          have hk0n : ¬ 0 < k := by omega
          clear G4 G5 hk0
          go_wp2_with fail
          go_quiet (fail)
          go_wp2_with fail
          go_roundw
          case rel => first | exact ⟨k + 1, by omega, by go_num, F5.out, below_drewN HB6.out nq⟩ | exact ⟨_, _, _, _, _, ⟨k + 1, by omega, by go_num, F5.out, below_drewN HB6.out nq⟩, rfl, rfl, rfl, rfl, rfl⟩
          case measure => simp [intOf]; omega
        · obtain ⟨m, rfl⟩ : ∃ m, k = m + 1 := ⟨k - 1, by omega⟩
          have hm : m < l.length := by omega
          obtain ⟨ad', c', e1, hadb', p0, _, _, _, _, hy⟩ := shn_at (Rp.below _ H1.out HB6.out) hm
          injection e1 with e1
          injection e1 with e1
          subst e1
          simp only [Nat.add_sub_cancel] at G4 G5
          have F4' : x.at_ < l[m].at_ → shownFault l = 8 := fun h => G4.out H0.out (by omega) h
          have F5' : l[m].at_ ≤ x.at_ → ∀ j, j < m + 1 + 1 → shnF l j = 0 := fun h => G5.out H0.out (fun e => absurd e.2 (Int.not_lt.2 h))
          clear G4 G5 hy
          generalize l[m] = y at *
          have F4 := Lib.hid F4'
          have F5q := Lib.hid F5'
          clear F4' F5'
          have hk0' : (0 : Int) < (m : Int) + 1 := by omega
          have hkm : IntKind.i64.wrap ((m : Int) + 1 - 1) = m := by rw [Int.add_sub_cancel]; exact IntWalk.i64_in _ (by omega)
          have hkm2 : IntKind.i64.wrap (m : Int) = m := IntWalk.i64_in _ (by omega)
          have hm0 : (0 : Int) ≤ (m : Int) := by omega
          have hml : (m : Int) < (l.length : Int) := by omega
          go_wp2_with fail
          by_cases hs : x.at_ < y.at_
          · have HF := Lib.hid (F4.out hs)
            clear F4 F5q
            go_quiet (fail)
            have HBX := Lib.hid (below_drewN HB6.out nq)
            go_wp2_with fail
            go_ret
            exact ⟨by rw [HF.out]; rfl, HBX.out⟩
          · have F5 := Lib.hid (F5q.out (Int.not_lt.1 hs))
            clear F4 F5q
            go_quiet (fail)
            go_wp2_with fail
            go_roundw
            case rel => first | exact ⟨m + 1 + 1, by omega, by go_num, F5.out, below_drewN HB6.out nq⟩ | exact ⟨_, _, _, _, _, ⟨m + 1 + 1, by omega, by go_num, F5.out, below_drewN HB6.out nq⟩, rfl, rfl, rfl, rfl, rfl⟩
            case measure => simp [intOf]; omega
      have he : (bstr x.who).toList.isEmpty = false := by
        rw [bstr_toList]; cases hq : x.who with | nil => exact absurd hq hw | cons _ _ => rfl
      go_wp2_with fail
      refine (isName_any x.who _ hz2).mono ?_
      rintro e w5 ⟨rfl, hb5⟩
      have HB5 := Lib.hid (HB4.out.trans (hb5.mono HB4.out.size))
      have lt5 : wr.heap.size < w5.heap.size := by have := hb5.size; omega
      have d0 : w5.cell? ⟨wr.heap.size, 0, none⟩ = some (.int .i64 x.at_) := (hb5.cell lt4).trans d0
      have d1 : w5.cell? ⟨wr.heap.size, 1, none⟩ = some (.string (bstr x.who)) := (hb5.cell lt4).trans d1
      have d2 : w5.cell? ⟨wr.heap.size, 2, none⟩ = some (.bool x.house) := (hb5.cell lt4).trans d2
      have d3 : w5.cell? ⟨wr.heap.size, 3, none⟩ = some (.string (bstr x.key)) := (hb5.cell lt4).trans d3
      have d4 : w5.cell? ⟨wr.heap.size, 4, none⟩ = some (.int .i64 x.time) := (hb5.cell lt4).trans d4
      clear hb5
      cases q2 : isNm x.who with
      | false =>
        have HF : Hid (shownFault l = 5) := Lib.hid (F1.out _ (HR1.out.trans (if_pos ⟨hw, q2⟩)) (by decide))
        clear q2 hw
        go_wp2_with fail
        go_ret
        exact ⟨by rw [HF.out]; rfl, HB5.out⟩
      | true =>
      have HR2 : Hid (shn1F x = if capF ⟨x.key, x.time⟩ ≠ 0 then capF ⟨x.key, x.time⟩ else if x.at_ < x.time then 1 else 0) := Lib.hid (HR1.out.trans (if_neg (fun e => by rw [q2] at e; exact absurd e.2 (by decide))))
      clear hw HR1 q2
      go_wp2_with fail
      refine (capture_any ⟨x.key, x.time⟩ _ hz3).mono ?_
      rintro e w6 ⟨rfl, hb6⟩
      have HB6 := Lib.hid (HB5.out.trans (hb6.mono HB5.out.size))
      have lt6 : wr.heap.size < w6.heap.size := by have := hb6.size; omega
      have d0 : w6.cell? ⟨wr.heap.size, 0, none⟩ = some (.int .i64 x.at_) := (hb6.cell lt5).trans d0
      have d1 : w6.cell? ⟨wr.heap.size, 1, none⟩ = some (.string (bstr x.who)) := (hb6.cell lt5).trans d1
      have d2 : w6.cell? ⟨wr.heap.size, 2, none⟩ = some (.bool x.house) := (hb6.cell lt5).trans d2
      have d3 : w6.cell? ⟨wr.heap.size, 3, none⟩ = some (.string (bstr x.key)) := (hb6.cell lt5).trans d3
      have d4 : w6.cell? ⟨wr.heap.size, 4, none⟩ = some (.int .i64 x.time) := (hb6.cell lt5).trans d4
      clear hb6
      generalize capF ⟨x.key, x.time⟩ = cf at *
      by_cases hcf : cf = 0
      case neg =>
        have HF : Hid (shownFault l = cf) := Lib.hid (F1.out _ (HR2.out.trans (if_pos hcf)) hcf)
        have HBX := Lib.hid (HB6.out.mono (Nat.le_refl _))
        have hb : (cf != 0) = true := by simpa using hcf
        clear hcf HR2
        go_wp2_with fail
        go_ret
        exact ⟨by rw [HF.out]; rfl, HB6.out⟩
      have hb : (cf != 0) = false := by simpa using hcf
      have HR3 : Hid (shn1F x = if x.at_ < x.time then 1 else 0) := Lib.hid (HR2.out.trans (if_neg (fun e => e hcf)))
      clear HR2
      subst hcf
      by_cases htm : x.at_ < x.time
      · have HF : Hid (shownFault l = 1) := Lib.hid (F1.out _ (HR3.out.trans (if_pos htm)) (by decide))
        go_wp2_with fail
        go_ret
        exact ⟨by rw [HF.out]; rfl, HB6.out⟩
      have H0 : Hid (shn1F x = 0) := Lib.hid (HR3.out.trans (if_neg htm))
      clear HR3 F1
      by_cases hk0 : k = 0
      · have F5 := Lib.hid (G5.out H0.out (fun h => absurd h.1 (by omega)))
        have hk0' : ¬ (0 : Int) < (k : Int) := by omega
        have hk0n : ¬ 0 < k := by omega
        clear G4 G5 hk0
        go_wp2_with fail
        go_quiet (fail)
        go_wp2_with fail
        go_roundw
        case rel => first | exact ⟨k + 1, by omega, by go_num, F5.out, below_drewN HB6.out nq⟩ | exact ⟨_, _, _, _, _, ⟨k + 1, by omega, by go_num, F5.out, below_drewN HB6.out nq⟩, rfl, rfl, rfl, rfl, rfl⟩
        case measure => simp [intOf]; omega
      · obtain ⟨m, rfl⟩ : ∃ m, k = m + 1 := ⟨k - 1, by omega⟩
        have hm : m < l.length := by omega
        obtain ⟨ad', c', e1, hadb', p0, _, _, _, _, hy⟩ := shn_at (Rp.below _ H1.out HB6.out) hm
        injection e1 with e1
        injection e1 with e1
        subst e1
        simp only [Nat.add_sub_cancel] at G4 G5
        have F4' : x.at_ < l[m].at_ → shownFault l = 8 := fun h => G4.out H0.out (by omega) h
        have F5' : l[m].at_ ≤ x.at_ → ∀ j, j < m + 1 + 1 → shnF l j = 0 := fun h => G5.out H0.out (fun e => absurd e.2 (Int.not_lt.2 h))
        clear G4 G5 hy
        generalize l[m] = y at *
        have F4 := Lib.hid F4'
        have F5q := Lib.hid F5'
        clear F4' F5'
        have hk0' : (0 : Int) < (m : Int) + 1 := by omega
        have hkm : IntKind.i64.wrap ((m : Int) + 1 - 1) = m := by rw [Int.add_sub_cancel]; exact IntWalk.i64_in _ (by omega)
        have hkm2 : IntKind.i64.wrap (m : Int) = m := IntWalk.i64_in _ (by omega)
        have hm0 : (0 : Int) ≤ (m : Int) := by omega
        have hml : (m : Int) < (l.length : Int) := by omega
        go_wp2_with fail
        by_cases hs : x.at_ < y.at_
        · have HF := Lib.hid (F4.out hs)
          clear F4 F5q
          go_quiet (fail)
          have HBX := Lib.hid (below_drewN HB6.out nq)
          go_wp2_with fail
          go_ret
          exact ⟨by rw [HF.out]; rfl, HBX.out⟩
        · have F5 := Lib.hid (F5q.out (Int.not_lt.1 hs))
          clear F4 F5q
          go_quiet (fail)
          go_wp2_with fail
          go_roundw
          case rel => first | exact ⟨m + 1 + 1, by omega, by go_num, F5.out, below_drewN HB6.out nq⟩ | exact ⟨_, _, _, _, _, ⟨m + 1 + 1, by omega, by go_num, F5.out, below_drewN HB6.out nq⟩, rfl, rfl, rfl, rfl, rfl⟩
          case measure => simp [intOf]; omega
    · obtain rfl : k = l.length := by omega
      have HF := Lib.hid (shownFault_ok h5 HS.out)
      go_wp2_with fail
      go_ret
      exact ⟨by rw [HF.out]; rfl, HB.out⟩
set_option maxRecDepth 100000 in
set_option maxHeartbeats 4000000 in
theorem hCheckShown_any (v : Value) (l : List Shn) (w : World) (h1 : (Rp.sl shnRp).ok w (· < w.heap.size) [v] l) :
    Calls Tryz.prog 53 #[v] w fun e w' => e = .returned (.int .i64 (shownFault l)) ∧ Below w.heap.size w w' := by
  obtain ⟨A, c, rfl, hl, hc, _⟩ := Rp.sl_open h1
  unfold maxLen at hc
  have H1 := Lib.hid h1
  clear h1
  by_cases h5 : 3000 < l.length
  · have HF : Hid (shownFault l = 2) := Lib.hid (if_pos h5)
    have h5' : (3000 : Int) < (l.length : Int) := by omega
    go_enter Tryz.func53, Tryz.ntmps53
    go_wp2_with fail
    go_ret
    exact ⟨by rw [HF.out]; rfl, Below.refl _ _⟩
  have h5' : ¬ (3000 : Int) < (l.length : Int) := by omega
  go_enter Tryz.func53, Tryz.ntmps53
  go_wp2_with fail
  go_loopw [11] (fun i wr => ∃ k : Nat, k ≤ l.length ∧ i = .int .i64 k ∧ Hid (∀ j, j < k → shnF l j = 0) ∧ Hid (Below w.heap.size w wr)) (fun i _ => l.length - (intOf i).toNat)
  case atStart => exact ⟨0, by omega, rfl, (fun j hj => absurd hj (by omega)), Below.refl _ _⟩
  case round =>
    obtain ⟨k, hk, rfl, HS, HB⟩ := hrel
    by_cases hlt : k < l.length
    · obtain ⟨ad, cc, e1, hadb, c0, c1, c2, c3, c4, hz⟩ := shn_at (Rp.below _ H1.out HB.out) hlt
      injection e1 with e1 _ e2
      subst e1 e2
      obtain ⟨_, hz2, hz3, _⟩ := hz
      unfold maxLen at hz2 hz3
      have hz2 : l[k].who.length ≤ 9223372036854775807 := by omega
      have hz3 : l[k].key.length ≤ 9223372036854775807 := by omega
      have F1 : Hid (∀ f, shn1F l[k] = f → f ≠ 0 → shownFault l = f) := Lib.hid (fun f h h0 => shownFault_at h5 hlt HS.out ((shnF_1 hlt (by rw [h]; exact h0)).trans h) h0)
      have G4 := Lib.hid (fun h h2 h3 => shownFault_at h5 hlt HS.out (shnF_2 hlt h h2 h3) (by decide))
      have G5 := Lib.hid (fun h h2 => firstF_step HS.out (shnF_3 hlt h h2))
      generalize hx : l[k] = x at *
      clear hx
      have HR : Hid (shn1F x = if withinB x.at_ 0 253402300799 = false then 1 else if x.who ≠ [] ∧ isNm x.who = false then 5 else if capF ⟨x.key, x.time⟩ ≠ 0 then capF ⟨x.key, x.time⟩ else if x.at_ < x.time then 1 else 0) := Lib.hid rfl
      have HB4 := Lib.hid (HB.out.alloc HB.out.size (.cells #[.int .i64 x.at_, .string (bstr x.who), .bool x.house, .string (bstr x.key), .int .i64 x.time] 93))
      have hkb := Blk.new wr 93 [.int .i64 x.at_, .string (bstr x.who), .bool x.house, .string (bstr x.key), .int .i64 x.time]
      have d0 : _ = some (Value.int .i64 x.at_) := hkb.cell 0
      have d1 : _ = some (Value.string (bstr x.who)) := hkb.cell 1
      have d2 : _ = some (Value.bool x.house) := hkb.cell 2
      have d3 : _ = some (Value.string (bstr x.key)) := hkb.cell 3
      have d4 : _ = some (Value.int .i64 x.time) := hkb.cell 4
      have lt4 : wr.heap.size < (wr.alloc (.cells #[.int .i64 x.at_, .string (bstr x.who), .bool x.house, .string (bstr x.key), .int .i64 x.time] 93)).heap.size := by simp
      clear hkb
      go_wp2_with fail
      generalize wr.alloc (.cells #[.int .i64 x.at_, .string (bstr x.who), .bool x.house, .string (bstr x.key), .int .i64 x.time] 93) = w4 at *
      refine (hwithin_any x.at_ 0 253402300799 _).mono ?_
      rintro e w4 ⟨rfl, rfl⟩
      cases q1 : withinB x.at_ 0 253402300799 with
      | false =>
        have HF : Hid (shownFault l = 1) := Lib.hid (F1.out _ (HR.out.trans (if_pos q1)) (by decide))
        clear q1
        go_wp2_with fail
        go_ret
        exact ⟨by rw [HF.out]; rfl, HB4.out⟩
      | true =>
      have HR1 : Hid (shn1F x = if x.who ≠ [] ∧ isNm x.who = false then 5 else if capF ⟨x.key, x.time⟩ ≠ 0 then capF ⟨x.key, x.time⟩ else if x.at_ < x.time then 1 else 0) := Lib.hid (HR.out.trans (if_neg (by rw [q1]; decide)))
      clear q1 HR
      by_cases hw : x.who = []
      · have he : (bstr x.who).toList.isEmpty = true := by rw [hw, bstr_toList]; rfl
        have HR2 : Hid (shn1F x = if capF ⟨x.key, x.time⟩ ≠ 0 then capF ⟨x.key, x.time⟩ else if x.at_ < x.time then 1 else 0) := Lib.hid (HR1.out.trans (if_neg (fun e => e.1 hw)))
        clear hw HR1
        go_wp2_with fail
        obtain ⟨w5, hw5⟩ : ∃ w5, w5 = w4 := ⟨_, rfl⟩
        have HB5 : Hid (Below w.heap.size w w5) := Lib.hid (by rw [hw5]; exact HB4.out)
        have lt5 : wr.heap.size < w5.heap.size := by rw [hw5]; exact lt4
        rw [← hw5] at d0 d1 d2 d3 d4 ⊢
        clear hw5 HB4
        refine (captureOf_any x _).mono ?_
        rintro e w7 ⟨rfl, hb7⟩
        have HB7 := Lib.hid (HB5.out.trans (hb7.mono HB5.out.size))
        have lt7 : wr.heap.size < w7.heap.size := by have := hb7.size; omega
        have d0 : w7.cell? ⟨wr.heap.size, 0, none⟩ = some (.int .i64 x.at_) := (hb7.cell lt5).trans d0
        have d1 : w7.cell? ⟨wr.heap.size, 1, none⟩ = some (.string (bstr x.who)) := (hb7.cell lt5).trans d1
        have d2 : w7.cell? ⟨wr.heap.size, 2, none⟩ = some (.bool x.house) := (hb7.cell lt5).trans d2
        have d3 : w7.cell? ⟨wr.heap.size, 3, none⟩ = some (.string (bstr x.key)) := (hb7.cell lt5).trans d3
        have d4 : w7.cell? ⟨wr.heap.size, 4, none⟩ = some (.int .i64 x.time) := (hb7.cell lt5).trans d4
        clear hb7
        go_wp2_with fail
        refine (hcapture_any ⟨x.key, x.time⟩ _ hz3).mono ?_
        rintro e w6 ⟨rfl, hb6⟩
        have HB6 := Lib.hid (HB7.out.trans (hb6.mono HB7.out.size))
        have lt6 : wr.heap.size < w6.heap.size := by have := hb6.size; omega
        have d0 : w6.cell? ⟨wr.heap.size, 0, none⟩ = some (.int .i64 x.at_) := (hb6.cell lt7).trans d0
        have d1 : w6.cell? ⟨wr.heap.size, 1, none⟩ = some (.string (bstr x.who)) := (hb6.cell lt7).trans d1
        have d2 : w6.cell? ⟨wr.heap.size, 2, none⟩ = some (.bool x.house) := (hb6.cell lt7).trans d2
        have d3 : w6.cell? ⟨wr.heap.size, 3, none⟩ = some (.string (bstr x.key)) := (hb6.cell lt7).trans d3
        have d4 : w6.cell? ⟨wr.heap.size, 4, none⟩ = some (.int .i64 x.time) := (hb6.cell lt7).trans d4
        clear hb6
        generalize capF ⟨x.key, x.time⟩ = cf at *
        by_cases hcf : cf = 0
        case neg =>
          have HF : Hid (shownFault l = cf) := Lib.hid (F1.out _ (HR2.out.trans (if_pos hcf)) hcf)
          have HBX := Lib.hid (HB6.out.mono (Nat.le_refl _))
          have hb : (cf != 0) = true := by simpa using hcf
          clear hcf HR2
          go_wp2_with fail
          go_ret
          exact ⟨by rw [HF.out]; rfl, HB6.out⟩
        have hb : (cf != 0) = false := by simpa using hcf
        have HR3 : Hid (shn1F x = if x.at_ < x.time then 1 else 0) := Lib.hid (HR2.out.trans (if_neg (fun e => e hcf)))
        clear HR2
        subst hcf
        by_cases htm : x.at_ < x.time
        · have HF : Hid (shownFault l = 1) := Lib.hid (F1.out _ (HR3.out.trans (if_pos htm)) (by decide))
          go_wp2_with fail
          go_ret
          exact ⟨by rw [HF.out]; rfl, HB6.out⟩
        have H0 : Hid (shn1F x = 0) := Lib.hid (HR3.out.trans (if_neg htm))
        clear HR3 F1
        by_cases hk0 : k = 0
        · have F5 := Lib.hid (G5.out H0.out (fun h => absurd h.1 (by omega)))
          have hk0' : ¬ (0 : Int) < (k : Int) := by omega
          have hk0n : ¬ 0 < k := by omega
          clear G4 G5 hk0
          go_wp2_with fail
          go_quiet (fail)
          go_wp2_with fail
          go_roundw
          case rel => first | exact ⟨k + 1, by omega, by go_num, F5.out, below_drewN HB6.out nq⟩ | exact ⟨_, _, _, _, _, ⟨k + 1, by omega, by go_num, F5.out, below_drewN HB6.out nq⟩, rfl, rfl, rfl, rfl, rfl⟩
          case measure => simp [intOf]; omega
        · obtain ⟨m, rfl⟩ : ∃ m, k = m + 1 := ⟨k - 1, by omega⟩
          have hm : m < l.length := by omega
          obtain ⟨ad', c', e1, hadb', p0, _, _, _, _, hy⟩ := shn_at (Rp.below _ H1.out HB6.out) hm
          injection e1 with e1
          injection e1 with e1
          subst e1
          simp only [Nat.add_sub_cancel] at G4 G5
          have F4' : x.at_ < l[m].at_ → shownFault l = 8 := fun h => G4.out H0.out (by omega) h
          have F5' : l[m].at_ ≤ x.at_ → ∀ j, j < m + 1 + 1 → shnF l j = 0 := fun h => G5.out H0.out (fun e => absurd e.2 (Int.not_lt.2 h))
          clear G4 G5 hy
          generalize l[m] = y at *
          have F4 := Lib.hid F4'
          have F5q := Lib.hid F5'
          clear F4' F5'
          have hk0' : (0 : Int) < (m : Int) + 1 := by omega
          have hkm : IntKind.i64.wrap ((m : Int) + 1 - 1) = m := by rw [Int.add_sub_cancel]; exact IntWalk.i64_in _ (by omega)
          have hkm2 : IntKind.i64.wrap (m : Int) = m := IntWalk.i64_in _ (by omega)
          have hm0 : (0 : Int) ≤ (m : Int) := by omega
          have hml : (m : Int) < (l.length : Int) := by omega
          go_wp2_with fail
          by_cases hs : x.at_ < y.at_
          · have HF := Lib.hid (F4.out hs)
            clear F4 F5q
            go_quiet (fail)
            have HBX := Lib.hid (below_drewN HB6.out nq)
            go_wp2_with fail
            go_ret
            exact ⟨by rw [HF.out]; rfl, HBX.out⟩
          · have F5 := Lib.hid (F5q.out (Int.not_lt.1 hs))
            clear F4 F5q
            go_quiet (fail)
            go_wp2_with fail
            go_roundw
            case rel => first | exact ⟨m + 1 + 1, by omega, by go_num, F5.out, below_drewN HB6.out nq⟩ | exact ⟨_, _, _, _, _, ⟨m + 1 + 1, by omega, by go_num, F5.out, below_drewN HB6.out nq⟩, rfl, rfl, rfl, rfl, rfl⟩
            case measure => simp [intOf]; omega
      have he : (bstr x.who).toList.isEmpty = false := by
        rw [bstr_toList]; cases hq : x.who with | nil => exact absurd hq hw | cons _ _ => rfl
      go_wp2_with fail
      refine (hNameB_any x.who _ hz2).mono ?_
      rintro e w5 ⟨rfl, hb5⟩
      have HB5 := Lib.hid (HB4.out.trans (hb5.mono HB4.out.size))
      have lt5 : wr.heap.size < w5.heap.size := by have := hb5.size; omega
      have d0 : w5.cell? ⟨wr.heap.size, 0, none⟩ = some (.int .i64 x.at_) := (hb5.cell lt4).trans d0
      have d1 : w5.cell? ⟨wr.heap.size, 1, none⟩ = some (.string (bstr x.who)) := (hb5.cell lt4).trans d1
      have d2 : w5.cell? ⟨wr.heap.size, 2, none⟩ = some (.bool x.house) := (hb5.cell lt4).trans d2
      have d3 : w5.cell? ⟨wr.heap.size, 3, none⟩ = some (.string (bstr x.key)) := (hb5.cell lt4).trans d3
      have d4 : w5.cell? ⟨wr.heap.size, 4, none⟩ = some (.int .i64 x.time) := (hb5.cell lt4).trans d4
      clear hb5
      cases q2 : isNm x.who with
      | false =>
        have HF : Hid (shownFault l = 5) := Lib.hid (F1.out _ (HR1.out.trans (if_pos ⟨hw, q2⟩)) (by decide))
        clear q2 hw
        go_wp2_with fail
        go_ret
        exact ⟨by rw [HF.out]; rfl, HB5.out⟩
      | true =>
      have HR2 : Hid (shn1F x = if capF ⟨x.key, x.time⟩ ≠ 0 then capF ⟨x.key, x.time⟩ else if x.at_ < x.time then 1 else 0) := Lib.hid (HR1.out.trans (if_neg (fun e => by rw [q2] at e; exact absurd e.2 (by decide))))
      clear hw HR1 q2
      go_wp2_with fail
      refine (captureOf_any x _).mono ?_
      rintro e w7 ⟨rfl, hb7⟩
      have HB7 := Lib.hid (HB5.out.trans (hb7.mono HB5.out.size))
      have lt7 : wr.heap.size < w7.heap.size := by have := hb7.size; omega
      have d0 : w7.cell? ⟨wr.heap.size, 0, none⟩ = some (.int .i64 x.at_) := (hb7.cell lt5).trans d0
      have d1 : w7.cell? ⟨wr.heap.size, 1, none⟩ = some (.string (bstr x.who)) := (hb7.cell lt5).trans d1
      have d2 : w7.cell? ⟨wr.heap.size, 2, none⟩ = some (.bool x.house) := (hb7.cell lt5).trans d2
      have d3 : w7.cell? ⟨wr.heap.size, 3, none⟩ = some (.string (bstr x.key)) := (hb7.cell lt5).trans d3
      have d4 : w7.cell? ⟨wr.heap.size, 4, none⟩ = some (.int .i64 x.time) := (hb7.cell lt5).trans d4
      clear hb7
      go_wp2_with fail
      refine (hcapture_any ⟨x.key, x.time⟩ _ hz3).mono ?_
      rintro e w6 ⟨rfl, hb6⟩
      have HB6 := Lib.hid (HB7.out.trans (hb6.mono HB7.out.size))
      have lt6 : wr.heap.size < w6.heap.size := by have := hb6.size; omega
      have d0 : w6.cell? ⟨wr.heap.size, 0, none⟩ = some (.int .i64 x.at_) := (hb6.cell lt7).trans d0
      have d1 : w6.cell? ⟨wr.heap.size, 1, none⟩ = some (.string (bstr x.who)) := (hb6.cell lt7).trans d1
      have d2 : w6.cell? ⟨wr.heap.size, 2, none⟩ = some (.bool x.house) := (hb6.cell lt7).trans d2
      have d3 : w6.cell? ⟨wr.heap.size, 3, none⟩ = some (.string (bstr x.key)) := (hb6.cell lt7).trans d3
      have d4 : w6.cell? ⟨wr.heap.size, 4, none⟩ = some (.int .i64 x.time) := (hb6.cell lt7).trans d4
      clear hb6
      generalize capF ⟨x.key, x.time⟩ = cf at *
      by_cases hcf : cf = 0
      case neg =>
        have HF : Hid (shownFault l = cf) := Lib.hid (F1.out _ (HR2.out.trans (if_pos hcf)) hcf)
        have HBX := Lib.hid (HB6.out.mono (Nat.le_refl _))
        have hb : (cf != 0) = true := by simpa using hcf
        clear hcf HR2
        go_wp2_with fail
        go_ret
        exact ⟨by rw [HF.out]; rfl, HB6.out⟩
      have hb : (cf != 0) = false := by simpa using hcf
      have HR3 : Hid (shn1F x = if x.at_ < x.time then 1 else 0) := Lib.hid (HR2.out.trans (if_neg (fun e => e hcf)))
      clear HR2
      subst hcf
      by_cases htm : x.at_ < x.time
      · have HF : Hid (shownFault l = 1) := Lib.hid (F1.out _ (HR3.out.trans (if_pos htm)) (by decide))
        go_wp2_with fail
        go_ret
        exact ⟨by rw [HF.out]; rfl, HB6.out⟩
      have H0 : Hid (shn1F x = 0) := Lib.hid (HR3.out.trans (if_neg htm))
      clear HR3 F1
      by_cases hk0 : k = 0
      · have F5 := Lib.hid (G5.out H0.out (fun h => absurd h.1 (by omega)))
        have hk0' : ¬ (0 : Int) < (k : Int) := by omega
        have hk0n : ¬ 0 < k := by omega
        clear G4 G5 hk0
        go_wp2_with fail
        go_quiet (fail)
        go_wp2_with fail
        go_roundw
        case rel => first | exact ⟨k + 1, by omega, by go_num, F5.out, below_drewN HB6.out nq⟩ | exact ⟨_, _, _, _, _, ⟨k + 1, by omega, by go_num, F5.out, below_drewN HB6.out nq⟩, rfl, rfl, rfl, rfl, rfl⟩
        case measure => simp [intOf]; omega
      · obtain ⟨m, rfl⟩ : ∃ m, k = m + 1 := ⟨k - 1, by omega⟩
        have hm : m < l.length := by omega
        obtain ⟨ad', c', e1, hadb', p0, _, _, _, _, hy⟩ := shn_at (Rp.below _ H1.out HB6.out) hm
        injection e1 with e1
        injection e1 with e1
        subst e1
        simp only [Nat.add_sub_cancel] at G4 G5
        have F4' : x.at_ < l[m].at_ → shownFault l = 8 := fun h => G4.out H0.out (by omega) h
        have F5' : l[m].at_ ≤ x.at_ → ∀ j, j < m + 1 + 1 → shnF l j = 0 := fun h => G5.out H0.out (fun e => absurd e.2 (Int.not_lt.2 h))
        clear G4 G5 hy
        generalize l[m] = y at *
        have F4 := Lib.hid F4'
        have F5q := Lib.hid F5'
        clear F4' F5'
        have hk0' : (0 : Int) < (m : Int) + 1 := by omega
        have hkm : IntKind.i64.wrap ((m : Int) + 1 - 1) = m := by rw [Int.add_sub_cancel]; exact IntWalk.i64_in _ (by omega)
        have hkm2 : IntKind.i64.wrap (m : Int) = m := IntWalk.i64_in _ (by omega)
        have hm0 : (0 : Int) ≤ (m : Int) := by omega
        have hml : (m : Int) < (l.length : Int) := by omega
        go_wp2_with fail
        by_cases hs : x.at_ < y.at_
        · have HF := Lib.hid (F4.out hs)
          clear F4 F5q
          go_quiet (fail)
          have HBX := Lib.hid (below_drewN HB6.out nq)
          go_wp2_with fail
          go_ret
          exact ⟨by rw [HF.out]; rfl, HBX.out⟩
        · have F5 := Lib.hid (F5q.out (Int.not_lt.1 hs))
          clear F4 F5q
          go_quiet (fail)
          go_wp2_with fail
          go_roundw
          case rel => first | exact ⟨m + 1 + 1, by omega, by go_num, F5.out, below_drewN HB6.out nq⟩ | exact ⟨_, _, _, _, _, ⟨m + 1 + 1, by omega, by go_num, F5.out, below_drewN HB6.out nq⟩, rfl, rfl, rfl, rfl, rfl⟩
          case measure => simp [intOf]; omega
    · obtain rfl : k = l.length := by omega
      have HF := Lib.hid (shownFault_ok h5 HS.out)
      go_wp2_with fail
      go_ret
      exact ⟨by rw [HF.out]; rfl, HB.out⟩
end Go.Proofs.YtgbpnghgcffkbaaGreatDoor
