/-
  'vote' of package care: the vote on the copies of one item.
-/
import Derived.Test.YtpmonhilfpfiaaaGreatDoorProg
import Derived.Test.YtpmonhilfpfiaaaGreatDoorVotePlain
import Derived.Test.YtpmonhilfpfiaaaGreatDoorMaps
import Derived.Deep.Onto
namespace Go.Proofs.YtpmonhilfpfiaaaGreatDoor
open Go.RowKit
set_option linter.unusedVariables false
set_option linter.unusedSimpArgs false

theorem int_zero (w : World) : (zeroValue 3).run Tryz.prog w = .ok (.int .i64 0) w := by kernel_rfl
/-- A result: a vote whose rows lie in blocks of its own. -/
def VotePost (V : Vote) (w : World) (e : Ending) (w' : World) : Prop :=
  ∃ vr vw, e = .returned (.agg #[.string (bstr V.item), .string (bstr V.digest), vr, vw]) ∧ w'.ownsRow w.heap.size 9 1 vr V.right.length (strs V.right) ∧ w'.ownsRow w.heap.size 9 1 vw V.wrong.length (strs V.wrong) ∧ Below w.heap.size w w'
theorem keyD (x : List UInt8) (h : x.length ≤ 9223372036854775807) : keyOf Tryz.prog 9 (.string (bstr x)) = some (.string x) :=
  WideMaps.keyOf_string_mk Tryz.underlying9 (by rw [bstr_size]; unfold maxLen; omega)
/-- The map of the weights with one more. -/
theorem of_put {s : List Site} {l : List Held} {k : Nat} {f : Lit → Option Int} (hk : k < l.length) (h : ∀ d, (f (.string d)).getD 0 = ofW s d (l.take k)) :
    ∀ d, ((fun x => if x.sameKey (.string l[k].digest) then some (ofW s l[k].digest (l.take k) + wtOf s l[k]) else f x) (.string d) : Option Int).getD 0 = ofW s d (l.take (k + 1)) := by
  intro d
  rw [ofW_take s d l k hk]
  by_cases e : d = l[k].digest
  · subst e
    dsimp only
    rw [if_pos (WideAt.sameKey_self (by trivial)), if_pos rfl]; rfl
  · dsimp only
    rw [if_neg (by rw [Maps.sameKey_ne (fun h => e (by injection h))]; simp), if_neg (Ne.symm e), h d]; omega
theorem held_at {w : World} {S : Nat → Prop} {v : Value} {l : List Held} (h : (Rp.sl heldRp).ok w S [v] l) {k : Nat} (hk : k < l.length) :
    ∃ ad c, v = .slice (some ad) l.length c ∧ S ad.block ∧ w.cell? (ad.add (k * 3)) = some (.string (bstr l[k].item)) ∧ w.cell? ⟨(ad.add (k * 3)).block, (ad.add (k * 3)).off + 1, none⟩ = some (.string (bstr l[k].site)) ∧
      w.cell? ⟨(ad.add (k * 3)).block, (ad.add (k * 3)).off + 2, none⟩ = some (.string (bstr l[k].digest)) ∧ l[k].item.length ≤ 9223372036854775807 ∧ l[k].site.length ≤ 9223372036854775807 ∧ l[k].digest.length ≤ 9223372036854775807 := by
  obtain ⟨A, c, rfl, _⟩ := Rp.sl_open h
  obtain ⟨ad, us, rfl, _, hb, hu, hcell⟩ := Rp.sl_at h hk
  obtain ⟨rfl, hz1, hz2, hz3⟩ := held_open hu
  unfold maxLen at hz1 hz2 hz3
  have c0 := hcell 0 _ rfl
  have c1 := hcell 1 _ rfl
  have c2 := hcell 2 _ rfl
  rw [add_fld _ _ _ (by omega)] at c1 c2
  exact ⟨ad, c, rfl, hb, c0, c1, c2, by omega, by omega, by omega⟩
theorem site_at {w : World} {S : Nat → Prop} {v : Value} {l : List Site} (h : (Rp.sl siteRp).ok w S [v] l) {k : Nat} (hk : k < l.length) :
    ∃ ad c, v = .slice (some ad) l.length c ∧ w.cell? ⟨(ad.add (k * 3)).block, (ad.add (k * 3)).off + 1, none⟩ = some (.int .i64 l[k].weight) := by
  obtain ⟨A, c, rfl, _⟩ := Rp.sl_open h
  obtain ⟨ad, us, rfl, _, hb, hu, hcell⟩ := Rp.sl_at h hk
  obtain ⟨rfl, hz1⟩ := site_open hu
  have c1 := hcell 1 _ rfl
  rw [add_fld _ _ _ (by omega)] at c1
  exact ⟨ad, c, rfl, c1⟩
theorem set_same (w : World) (a : Addr) (v : Value) : Same (fun k => k ≠ a.block) w (w.setCell a v) := fun k hk => heap_setCell_other _ _ _ _ hk
theorem grown_set (w : World) (b j : Nat) (v : Value) : w.grownBy (w.setCell ⟨b, j, none⟩ v) (some b) :=
  ⟨rfl, rfl, rfl, by simp [World.setCell], fun k _ hk => heap_setCell_other _ _ _ _ (fun e => hk (by rw [e]))⟩
/-- Two rows in blocks of their own each. -/
def Apt (v v' : Value) : Prop := ∀ g, v.ownBlock = some g → v'.ownBlock = some g → False
theorem Apt.symm {v v' : Value} (h : Apt v v') : Apt v' v := fun g a b => h g b a
theorem Apt.ne {v v' : Value} (h : Apt v v') : v'.ownBlock = none ∨ v'.ownBlock ≠ v.ownBlock := by
  cases hg : v'.ownBlock with
  | none => exact .inl rfl
  | some g => exact .inr fun e => h g e.symm hg
theorem Apt.grow2 {v v' : Value} {w : World} {g n c B size m : Nat} {e : TypeId} {xs : List Value} (h : Apt v v') (h1 : v.ownBlock = some g ∨ w.heap.size ≤ g) (ho : w.ownsRow B e size v' m xs) : Apt (.slice (some ⟨g, 0, none⟩) n c) v' := by
  intro g' a b
  injection a with a
  subst a
  rcases h1 with h1 | h1
  · exact h _ h1 b
  · have h2 : g < w.heap.size := (ho.lt _ b).2
    omega
theorem own_not {v : Value} {b : Nat} (h : ∀ g, v.ownBlock = some g → b + 1 ≤ g) : v.ownBlock = none ∨ v.ownBlock ≠ some b := by
  cases hg : v.ownBlock with
  | none => exact .inl rfl
  | some g => exact .inr fun e => by injection e with e; have := h g hg; omega
def zeroVote : List Value := [.string ⟨#[]⟩, .string ⟨#[]⟩, .slice none 0 0, .slice none 0 0]
set_option maxRecDepth 100000 in
set_option maxHeartbeats 4000000 in
theorem vote_any (v0 : Value) (s : List Site) (v1 : Value) (l : List Held) (w : World) (h0 : (Rp.sl siteRp).ok w (· < w.heap.size) [v0] s) (h1 : (Rp.sl heldRp).ok w (· < w.heap.size) [v1] l) (hv : VoteOk s l) :
    Calls Tryz.prog 48 #[v0, v1] w (VotePost (voteOf s l) w) := by
  obtain ⟨A, c, rfl, hl, hc, _⟩ := Rp.sl_open h1
  unfold maxLen at hc
  have hl3 : l.length ≤ 3000 := hv.2.2.2
  have hl0 : 0 < l.length := List.length_pos_iff.2 hv.2.2.1
  have H0 := Lib.hid h0
  have H1 := Lib.hid h1
  have HV := Lib.hid hv
  have HWT := Lib.hid (fun x (hx : x ∈ l) => wtOf_range hv hx)
  clear h0 h1 hv
  have hmm := @run_makeMap Tryz.prog
  go_enter Tryz.func48, Tryz.ntmps48
  go_wp2_with fail
  have HMM := Lib.hid hmm
  clear hmm
  have hba := (Below.refl w.heap.size w).alloc (Nat.le_refl _) (.cells #[.string ⟨#[]⟩, .string ⟨#[]⟩, .slice none 0 0, .slice none 0 0] 45)
  have HBM := Lib.hid (hba.alloc hba.size (.map #[] 0))
  have hblk0 : Blk ((w.alloc (.cells #[.string ⟨#[]⟩, .string ⟨#[]⟩, .slice none 0 0, .slice none 0 0] 45)).alloc (.map #[] 0)) w.heap.size 45 zeroVote :=
    (Blk.new w 45 zeroVote).same (same_below ((Below.refl (w.alloc (.cells zeroVote.toArray 45)).heap.size _).alloc (Nat.le_refl _) (.map #[] 0))) (by simp)
  have hi0 := IMap.made (P := Tryz.prog) (K := 9) (E := 3) (q := .i64) (w.alloc (.cells #[.string ⟨#[]⟩, .string ⟨#[]⟩, .slice none 0 0, .slice none 0 0] 45))
  rw [World.size_alloc] at hi0
  have HBK0 := Lib.hid hblk0
  have HI0 := Lib.hid hi0
  clear hba hblk0 hi0
  go_loopw [5, 18] (fun va i wr => ∃ (k : Nat) (f : Lit → Option Int), k ≤ l.length ∧ i = .int .i64 k ∧ va = .int .i64 (sumW s (l.take k)) ∧ Hid (IMap Tryz.prog 9 3 .i64 wr (w.heap.size + 1) k f) ∧ Hid (∀ d, (f (.string d)).getD 0 = ofW s d (l.take k)) ∧
    Hid (Blk wr w.heap.size 45 zeroVote) ∧ Hid (Below w.heap.size w wr)) (fun _ i _ => l.length - (intOf i).toNat)
  case atStart => exact ⟨0, fun _ => none, by omega, rfl, rfl, HI0.out, (fun d => rfl), HBK0.out, HBM.out⟩
  case round =>
    obtain ⟨k, f, hk, rfl, rfl, HI, HF, HK, HB⟩ := hrel
    by_cases hlt : k < l.length
    · obtain ⟨ad, c', e1, hadb, c0, c1, c2, hz1, hz2, hz3⟩ := held_at (Rp.below _ H1.out HB.out) hlt
      injection e1 with e1 _ e3
      subst e1 e3
      have hwr := HWT.out _ (List.getElem_mem hlt)
      obtain ⟨si, hsi, hidx⟩ := HV.out.1 _ (List.getElem_mem hlt)
      have hwd : wtOf s l[k] = s[si].weight := by rw [wtOf, hidx, Int.toNat_natCast, getD_at _ _ hsi]
      have hst := sumW_take s l k hlt
      have hsr := sumW_range (s := s) (l := l.take k) (fun x hx => HWT.out x (List.mem_of_mem_take hx))
      have hor := ofW_range (s := s) l[k].digest (l := l.take k) (fun x hx => HWT.out x (List.mem_of_mem_take hx))
      rw [List.length_take] at hsr hor
      have hput := of_put (s := s) hlt HF.out
      have HFD := Lib.hid (HF.out l[k].digest)
      have HPUT := Lib.hid hput
      have HST := Lib.hid hst
      clear hadb hput hst
      generalize l[k] = x at *
      obtain ⟨S0, hS0⟩ : ∃ S0, sumW s (l.take k) = S0 := ⟨_, rfl⟩
      obtain ⟨O0, hO0⟩ : ∃ O0, ofW s x.digest (l.take k) = O0 := ⟨_, rfl⟩
      rw [hS0] at HST hsr ⊢
      rw [hO0] at HFD HPUT hor
      obtain ⟨W0, hW0⟩ : ∃ W0, wtOf s x = W0 := ⟨_, rfl⟩
      rw [hW0] at HST HPUT hwr hwd
      clear hS0 hO0 hW0
      have HHB := Lib.hid (HB.out.alloc HB.out.size (.cells #[.string (bstr x.item), .string (bstr x.site), .string (bstr x.digest)] 39))
      have hkb := Blk.new wr 39 [.string (bstr x.item), .string (bstr x.site), .string (bstr x.digest)]
      have k1 : _ = some (Value.string (bstr x.site)) := hkb.cell 1
      go_wp2_with fail
      refine (siteAt_any v0 s x.site _ (Rp.ext _ H0.out HHB.out)).mono ?_
      rintro e w5 ⟨rfl, hb5⟩
      rw [hidx]
      have HB5 := Lib.hid (HHB.out.trans (hb5.mono HHB.out.size))
      have d2 : w5.cell? ⟨wr.heap.size, 2, none⟩ = some (.string (bstr x.digest)) := (hkb.same (same_below hb5) (by simp)).cell 2
      have hbw : Below wr.heap.size wr w5 := ((Below.refl wr.heap.size wr).alloc (Nat.le_refl _) _).trans (hb5.mono (by simp))
      have HI5 := Lib.hid (HI.out.below hbw HI.out.lt)
      have HK5 := Lib.hid (HK.out.same (same_below hbw) (by have := HI.out.lt; omega))
      obtain ⟨ads, cs, e2, cw⟩ := site_at (Rp.ext _ H0.out HB5.out) hsi
      rw [← hwd] at cw
      have hkey := keyD x.digest hz3
      have hlk := HI5.out.look (T := 75) (Maps.string_keyed Tryz.underlying9) Tryz.underlying75 Tryz.underlying3 int_zero hkey (by trivial)
      rw [HFD.out] at hlk
      have HKEY := Lib.hid hkey
      subst e2
      have hsl : (si : Int) < (s.length : Int) := by omega
      clear hb5 hkb k1 hbw hkey hidx c0 c1 c2 hwd HI HK
      go_wp2_with (at_mapUpdate; refine imap_update rfl _ _ _ 75 rfl HI5.out (Maps.string_keyed Tryz.underlying9) Tryz.underlying75 Tryz.underlying3 (by unfold maxLen; omega) (.string x.digest) rfl rfl rfl (WalkArith.wf_i64 (by omega)) HKEY.out (by trivial) ?_; intro w6 HI6 HG6)
      go_roundw
      case rel =>
        refine ⟨k + 1, _, by omega, by go_num, by rw [HST.out], HI6.out, HPUT.out, ?_, ?_⟩
        · exact HK5.out.same (grown_same HG6.out) ⟨by have := HI5.out.lt; omega, fun e => by injection e with e; omega⟩
        · exact HB5.out.grown HG6.out HB5.out.size (fun g e => by injection e with e; omega)
      case measure => simp [intOf]; omega
    · obtain rfl : k = l.length := by omega
      rw [List.take_length] at HF ⊢
      obtain ⟨ad, c', e1, hadb, c0, c1, c2, hz1, hz2, hz3⟩ := held_at (Rp.below _ H1.out HB.out) hl0
      injection e1 with e1 _ e3
      subst e1 e3
      rw [Nat.zero_mul, add_nil] at c0
      have hsr := sumW_range (s := s) (l := l) HWT.out
      obtain ⟨S0, hS0⟩ : ∃ S0, sumW s l = S0 := ⟨_, rfl⟩
      rw [hS0] at hsr ⊢
      have HS0 := Lib.hid hS0
      have hit : l[0].item = (voteOf s l).item := by
        rw [voteOf]
        cases l with
        | nil => simp at hl0
        | cons h t => rfl
      have HIT := Lib.hid hit
      clear hS0 hit hadb c1 c2
      generalize l[0].item = it at *
      have hkb := Blk.new wr 45 [.string (bstr it), .string ⟨#[]⟩, .slice none 0 0, .slice none 0 0]
      have hbw := (Below.refl wr.heap.size wr).alloc (Nat.le_refl _) (.cells #[.string (bstr it), .string ⟨#[]⟩, .slice none 0 0, .slice none 0 0] 45)
      have HI1 := Lib.hid (HI.out.below hbw HI.out.lt)
      have HKZ := Lib.hid (HK.out.same (same_below hbw) (by have := HI.out.lt; omega))
      have HB1 := Lib.hid (HB.out.alloc HB.out.size (.cells #[.string (bstr it), .string ⟨#[]⟩, .slice none 0 0, .slice none 0 0] 45))
      have HKV := Lib.hid hkb
      have hbm := HI.out.lt
      obtain ⟨bv, hbv⟩ : ∃ bv, bv = wr.heap.size := ⟨_, rfl⟩
      have hbv1 : bv < (wr.alloc (.cells #[.string (bstr it), .string ⟨#[]⟩, .slice none 0 0, .slice none 0 0] 45)).heap.size := by simp; omega
      rw [← hbv] at HKV hbm
      have HBV := Lib.hid hbv
      clear hkb hbw HI HK HB hbv hbv1
      go_wp2_with fail
      rw [← HBV.out]
      go_loopw [47] (fun i w2 => ∃ (k : Nat) (d : List UInt8), k ≤ l.length ∧ i = .int .i64 k ∧ Hid (IMap Tryz.prog 9 3 .i64 w2 (w.heap.size + 1) l.length f) ∧ Hid (voteDigGo s l (l.drop k) d = voteDig s l) ∧ Hid (Blk w2 w.heap.size 45 zeroVote) ∧
        Hid (Blk w2 bv 45 [.string (bstr it), .string (bstr d), .slice none 0 0, .slice none 0 0]) ∧ Hid (Below w.heap.size w w2)) (fun i _ => l.length - (intOf i).toNat)
      case atStart => exact ⟨0, [], by omega, rfl, HI1.out, rfl, HKZ.out, HKV.out, HB1.out⟩
      case round =>
        clear HI1 HKZ HKV HB1 c0
        obtain ⟨k, d, hk, rfl, HI, HVD, HKZ, HKV, HB⟩ := hrel
        by_cases hlt : k < l.length
        · obtain ⟨ad', c', e1, hadb, c0, c1, c2, hz1, hz2, hz3⟩ := held_at (Rp.below _ H1.out HB.out) hlt
          injection e1 with e1 _ e3
          injection e1 with e1
          subst e1 e3
          have hor := ofW_range (s := s) l[k].digest (l := l) HWT.out
          have HFD := Lib.hid (HF.out l[k].digest)
          have hvs := voteDigGo_step s l l k hlt d
          rw [HVD.out, HS0.out] at hvs
          have HVS := Lib.hid hvs
          clear hadb hvs
          generalize l[k] = x at *
          obtain ⟨O0, hO0⟩ : ∃ O0, ofW s x.digest l = O0 := ⟨_, rfl⟩
          rw [hO0] at HFD HVS hor
          clear hO0
          have hkb := Blk.new wr 39 [.string (bstr x.item), .string (bstr x.site), .string (bstr x.digest)]
          have k2 : _ = some (Value.string (bstr x.digest)) := hkb.cell 2
          have hbw := (Below.refl wr.heap.size wr).alloc (Nat.le_refl _) (.cells #[.string (bstr x.item), .string (bstr x.site), .string (bstr x.digest)] 39)
          have HI1 := Lib.hid (HI.out.below hbw HI.out.lt)
          have HKZ1 := Lib.hid (HKZ.out.same (same_below hbw) (by have := HI.out.lt; omega))
          have HKV1 := Lib.hid (HKV.out.same (same_below hbw) HKV.out.lt)
          have HB1 := Lib.hid (HB.out.alloc HB.out.size (.cells #[.string (bstr x.item), .string (bstr x.site), .string (bstr x.digest)] 39))
          have hkey := keyD x.digest hz3
          have hlk := HI1.out.look (T := 75) (Maps.string_keyed Tryz.underlying9) Tryz.underlying75 Tryz.underlying3 int_zero hkey (by trivial)
          rw [HFD.out] at hlk
          have fv := HKV1.out.frozen 1
          have v1 : _ = some (Value.string (bstr d)) := HKV1.out.cell 1
          have hw2 : IntKind.i64.wrap (2 * O0) = 2 * O0 := IntWalk.i64_in _ (by omega)
          clear hkb hbw hkey
          by_cases hgt : S0 < 2 * O0
          · rw [if_pos hgt] at HVS
            have HS1 := Lib.hid (HKZ1.out.same (set_same _ ⟨bv, 1, none⟩ (.string (bstr x.digest))) (by show w.heap.size ≠ bv; omega))
            have HS2 := Lib.hid (HI1.out.same (set_same _ ⟨bv, 1, none⟩ (.string (bstr x.digest))) (by show w.heap.size + 1 ≠ bv; omega))
            have HS3 := Lib.hid (HKV1.out.set_ 1 (.string (bstr x.digest)))
            have HS4 := Lib.hid (HB1.out.setCell (p := ⟨bv, 1, none⟩) (by show w.heap.size ≤ bv; omega) (.string (bstr x.digest)))
            clear HI1 HKZ1 HKV1 HB1
            go_wp2_with fail
            go_roundw
            case rel => exact ⟨k + 1, x.digest, by omega, by go_num, HS2.out, HVS.out.symm, HS1.out, HS3.out, HS4.out⟩
            case measure => simp [intOf]; omega
          · rw [if_neg hgt] at HVS
            go_wp2_with fail
            go_roundw
            case rel => exact ⟨k + 1, d, by omega, by go_num, HI1.out, HVS.out.symm, HKZ1.out, HKV1.out, HB1.out⟩
            case measure => simp [intOf]; omega
        · obtain rfl : k = l.length := by omega
          rw [List.drop_length] at HVD
          obtain rfl : d = voteDig s l := HVD.out
          have HB0 := HB
          have HKZ0 := HKZ
          have HKV0 := HKV
          have hdl : (voteDig s l).length ≤ (voteDig s l).length := Nat.le_refl _
          generalize hdg : voteDig s l = dg at *
          have HDG := Lib.hid hdg
          clear HI HVD HKZ HKV HB hlt hk hdg
          go_wp2_with fail
          go_loopw [64] (fun i w3 => ∃ (k : Nat) (vr vw : Value), k ≤ l.length ∧ i = .int .i64 k ∧ Hid (Blk w3 bv 45 [.string (bstr it), .string (bstr dg), vr, vw]) ∧ Hid (Blk w3 w.heap.size 45 zeroVote) ∧
            Hid (w3.ownsRow (bv + 1) 9 1 vr (sitesOf (isD dg) (l.take k)).length (strs (sitesOf (isD dg) (l.take k)))) ∧ Hid (w3.ownsRow (bv + 1) 9 1 vw (sitesOf (notD dg) (l.take k)).length (strs (sitesOf (notD dg) (l.take k)))) ∧ Hid (Apt vr vw) ∧ Hid (Below w.heap.size w w3)) (fun i _ => l.length - (intOf i).toNat)
          case atStart => exact ⟨0, _, _, by omega, rfl, HKV0.out, HKZ0.out, World.ownsRow_nil _ _ _ _, World.ownsRow_nil _ _ _ _, (fun g a _ => by cases a), HB0.out⟩
          case round =>
            clear HB0 HKZ0 HKV0
            obtain ⟨k, vr, vw, hk, rfl, HKV, HKZ, HOR, HOW, HAP, HB⟩ := hrel
            by_cases hlt : k < l.length
            · obtain ⟨ad', c', e1, hadb, c0, c1, c2, hz1, hz2, hz3⟩ := held_at (Rp.below _ H1.out HB.out) hlt
              injection e1 with e1 _ e3
              injection e1 with e1
              subst e1 e3
              have hR := sitesOf_take (isD dg) l k hlt
              have hW := sitesOf_take (notD dg) l k hlt
              have hnl := sitesOf_len (isD dg) (l.take k)
              have hml := sitesOf_len (notD dg) (l.take k)
              rw [List.length_take] at hnl hml
              have HR := Lib.hid hR
              have HW := Lib.hid hW
              clear hadb hR hW
              generalize l[k] = x at *
              obtain ⟨n, hn⟩ : ∃ n, (sitesOf (isD dg) (l.take k)).length = n := ⟨_, rfl⟩
              obtain ⟨m, hm⟩ : ∃ m, (sitesOf (notD dg) (l.take k)).length = m := ⟨_, rfl⟩
              rw [hn] at HOR hnl
              rw [hm] at HOW hml
              have HN := Lib.hid hn
              have HM := Lib.hid hm
              have hn3 : n ≤ 3000 := by omega
              have hm3 : m ≤ 3000 := by omega
              clear hn hm hnl hml
              have hkb := Blk.new wr 39 [.string (bstr x.item), .string (bstr x.site), .string (bstr x.digest)]
              have k1 : _ = some (Value.string (bstr x.site)) := hkb.cell 1
              have k2 : _ = some (Value.string (bstr x.digest)) := hkb.cell 2
              have hbw := (Below.refl wr.heap.size wr).alloc (Nat.le_refl _) (.cells #[.string (bstr x.item), .string (bstr x.site), .string (bstr x.digest)] 39)
              have HKZ1 := Lib.hid (HKZ.out.same (same_below hbw) HKZ.out.lt)
              have hkv1 := HKV.out.same (same_below hbw) HKV.out.lt
              have HKV1 := Lib.hid hkv1
              have HOR1 := Lib.hid (own_below HOR.out hbw)
              have HOW1 := Lib.hid (own_below HOW.out hbw)
              have HB1 := Lib.hid (HB.out.alloc HB.out.size (.cells #[.string (bstr x.item), .string (bstr x.site), .string (bstr x.digest)] 39))
              have v1 : _ = some (Value.string (bstr dg)) := hkv1.cell 1
              have v2 : _ = some vr := hkv1.cell 2
              have v3 : _ = some vw := hkv1.cell 3
              have hlb := HKV1.out.lt
              have HSZ : Hid (bv + 1 ≤ (wr.alloc (.cells #[.string (bstr x.item), .string (bstr x.site), .string (bstr x.digest)] 39)).heap.size) := Lib.hid (by omega)
              have hwb : w.heap.size ≤ (wr.alloc (.cells #[.string (bstr x.item), .string (bstr x.site), .string (bstr x.digest)] 39)).heap.size := HB1.out.size
              obtain ⟨A5, c5, rfl, _⟩ := own_form HOR1.out
              obtain ⟨A6, c6, rfl, _⟩ := own_form HOW1.out
              clear hkb hbw hkv1 HOR HOW HKV HKZ HB
              by_cases hq : x.digest = dg
              · have hb1 : ((bstr x.digest).toList == (bstr dg).toList) = true := str_beq (by rw [hq])
                have HR2 : Hid (sitesOf (isD dg) (l.take (k + 1)) = sitesOf (isD dg) (l.take k) ++ [x.site]) := Lib.hid (by rw [HR.out, if_pos (show isD dg x.digest = true from decide_eq_true hq)])
                have HW2 : Hid (sitesOf (notD dg) (l.take (k + 1)) = sitesOf (notD dg) (l.take k) ++ []) := Lib.hid (by rw [HW.out, if_neg (by simp [notD, hq])])
                clear hq HR HW
                have fz := HKV1.out.frozen 2
                go_wp2_with (at_builtin; refine app_str rfl (.tmp 74) (.tmp 77) rfl HOR1.out HSZ.out rfl (by rw [World.size_alloc]; rfl) (by omega) ?_; intro g1 cc1 w9 HO9 HG9 HB9x HL9; have hkv9 := HKV1.out.same (grown_same HG9.out) ⟨HKV1.out.lt, fun e => by have := (HOR1.out.lt _ e.symm).1; omega⟩; have fz9 := hkv9.frozen 2; have v9 : w9.cell? ⟨bv, 2, none⟩ = some (.slice A5 n c5) := hkv9.cell 2; have HKV9 := Lib.hid hkv9)
                have HG10 := Lib.hid (grown_set w9 bv 2 (.slice (some ⟨g1, 0, none⟩) (n + 1) cc1))
                go_roundw
                case rel =>
                  refine ⟨k + 1, _, _, by omega, by go_num, HKV9.out.set_ 2 _, ?_, ?_, ?_, ?_, ?_⟩
                  · exact (HKZ1.out.same (grown_same HG9.out) ⟨HKZ1.out.lt, fun e => by have := (HOR1.out.lt _ e.symm).1; omega⟩).same (set_same _ _ _) (by show w.heap.size ≠ bv; omega)
                  · rw [HR2.out, strs_app, List.length_append, HN.out]
                    exact HO9.out.kept HG10.out (.inr fun e => by have := (HO9.out.lt _ rfl).1; injection e with e; omega)
                  · rw [HW2.out, List.append_nil, HM.out]
                    exact (HOW1.out.kept HG9.out HAP.out.ne).kept HG10.out (own_not (fun g hg => (HOW1.out.lt g hg).1))
                  · exact HAP.out.grow2 HL9.out HOW1.out
                  · exact (HB1.out.grown HG9.out (by omega) (fun g hg => by have := (HOR1.out.lt g hg).1; omega)).setCell (p := ⟨bv, 2, none⟩) (by show w.heap.size ≤ bv; omega) _
                case measure => simp [intOf]; omega
              · have hb1 : ((bstr x.digest).toList == (bstr dg).toList) = false := str_bne (fun e => hq (bstr_inj e))
                have HR2 : Hid (sitesOf (isD dg) (l.take (k + 1)) = sitesOf (isD dg) (l.take k) ++ []) := Lib.hid (by rw [HR.out, if_neg (by simp [isD, hq])])
                have HW2 : Hid (sitesOf (notD dg) (l.take (k + 1)) = sitesOf (notD dg) (l.take k) ++ [x.site]) := Lib.hid (by rw [HW.out, if_pos (show notD dg x.digest = true from decide_eq_true hq)])
                clear hq HR HW
                have fz := HKV1.out.frozen 3
                go_wp2_with (at_builtin; refine app_str rfl (.tmp 81) (.tmp 84) rfl HOW1.out HSZ.out rfl (by rw [World.size_alloc]; rfl) (by omega) ?_; intro g1 cc1 w9 HO9 HG9 HB9x HL9; have hkv9 := HKV1.out.same (grown_same HG9.out) ⟨HKV1.out.lt, fun e => by have := (HOW1.out.lt _ e.symm).1; omega⟩; have fz9 := hkv9.frozen 3; have v9 : w9.cell? ⟨bv, 3, none⟩ = some (.slice A6 m c6) := hkv9.cell 3; have HKV9 := Lib.hid hkv9)
                have HG10 := Lib.hid (grown_set w9 bv 3 (.slice (some ⟨g1, 0, none⟩) (m + 1) cc1))
                go_roundw
                case rel =>
                  refine ⟨k + 1, _, _, by omega, by go_num, HKV9.out.set_ 3 _, ?_, ?_, ?_, ?_, ?_⟩
                  · exact (HKZ1.out.same (grown_same HG9.out) ⟨HKZ1.out.lt, fun e => by have := (HOW1.out.lt _ e.symm).1; omega⟩).same (set_same _ _ _) (by show w.heap.size ≠ bv; omega)
                  · rw [HR2.out, List.append_nil, HN.out]
                    exact (HOR1.out.kept HG9.out HAP.out.symm.ne).kept HG10.out (own_not (fun g hg => (HOR1.out.lt g hg).1))
                  · rw [HW2.out, strs_app, List.length_append, HM.out]
                    exact HO9.out.kept HG10.out (.inr fun e => by have := (HO9.out.lt _ rfl).1; injection e with e; omega)
                  · exact (HAP.out.symm.grow2 HL9.out HOR1.out).symm
                  · exact (HB1.out.grown HG9.out (by omega) (fun g hg => by have := (HOW1.out.lt g hg).1; omega)).setCell (p := ⟨bv, 3, none⟩) (by show w.heap.size ≤ bv; omega) _
                case measure => simp [intOf]; omega
            · obtain rfl : k = l.length := by omega
              rw [List.take_length] at HOR HOW
              have hV : voteOf s l = ⟨it, dg, sitesOf (isD dg) l, sitesOf (notD dg) l⟩ := by
                have := HIT.out
                unfold voteOf at this ⊢
                rw [HDG.out] at this ⊢
                simp only [] at this
                rw [this]
              have HVV := Lib.hid hV
              obtain ⟨A5, c5, rfl, _⟩ := own_form HOR.out
              obtain ⟨A6, c6, rfl, _⟩ := own_form HOW.out
              have v0 : wr.cell? ⟨bv, 0, none⟩ = some (.string (bstr it)) := HKV.out.cell 0
              have v1 : wr.cell? ⟨bv, 1, none⟩ = some (.string (bstr dg)) := HKV.out.cell 1
              have v2 : wr.cell? ⟨bv, 2, none⟩ = some (.slice A5 (sitesOf (isD dg) l).length c5) := HKV.out.cell 2
              have v3 : wr.cell? ⟨bv, 3, none⟩ = some (.slice A6 (sitesOf (notD dg) l).length c6) := HKV.out.cell 3
              have z0 : wr.cell? ⟨w.heap.size, 0, none⟩ = some (.string ⟨#[]⟩) := HKZ.out.cell 0
              have z1 : wr.cell? ⟨w.heap.size, 1, none⟩ = some (.string ⟨#[]⟩) := HKZ.out.cell 1
              have z2 : wr.cell? ⟨w.heap.size, 2, none⟩ = some (.slice none 0 0) := HKZ.out.cell 2
              have z3 : wr.cell? ⟨w.heap.size, 3, none⟩ = some (.slice none 0 0) := HKZ.out.cell 3
              have y0 := HKZ.out.frozen 0
              have y1 := HKZ.out.frozen 1
              have y2 := HKZ.out.frozen 2
              have y3 := HKZ.out.frozen 3
              have HK4 := Lib.hid ((((HKZ.out.set_ 0 (.string (bstr it))).set_ 1 (.string (bstr dg))).set_ 2 (.slice A5 (sitesOf (isD dg) l).length c5)).set_ 3 (.slice A6 (sitesOf (notD dg) l).length c6))
              have hbw : w.heap.size ≤ bv + 1 := by omega
              have keep4 : ∀ {v : Value} {n : Nat} {xs : List Value}, wr.ownsRow (bv + 1) 9 1 v n xs → ((((wr.setCell ⟨w.heap.size, 0, none⟩ (.string (bstr it))).setCell ⟨w.heap.size, 1, none⟩ (.string (bstr dg))).setCell ⟨w.heap.size, 2, none⟩ (.slice A5 (sitesOf (isD dg) l).length c5)).setCell ⟨w.heap.size, 3, none⟩ (.slice A6 (sitesOf (notD dg) l).length c6)).ownsRow w.heap.size 9 1 v n xs := fun {v n xs} h => by
                have hn : v.ownBlock = none ∨ v.ownBlock ≠ some w.heap.size := by
                  cases hg : v.ownBlock with
                  | none => exact .inl rfl
                  | some g => exact .inr fun e => by injection e with e; have := (h.lt g hg).1; omega
                exact World.ownsRow.mono ((((h.kept (grown_set _ _ _ _) hn).kept (grown_set _ _ _ _) hn).kept (grown_set _ _ _ _) hn).kept (grown_set _ _ _ _) hn) hbw
              have HR4 := Lib.hid (keep4 HOR.out)
              have HW4 := Lib.hid (keep4 HOW.out)
              have HB4 := Lib.hid ((((HB.out.setCell (p := ⟨w.heap.size, 0, none⟩) (Nat.le_refl _) (.string (bstr it))).setCell (p := ⟨w.heap.size, 1, none⟩) (Nat.le_refl _) (.string (bstr dg))).setCell (p := ⟨w.heap.size, 2, none⟩) (Nat.le_refl _) (.slice A5 (sitesOf (isD dg) l).length c5)).setCell (p := ⟨w.heap.size, 3, none⟩) (Nat.le_refl _) (.slice A6 (sitesOf (notD dg) l).length c6))
              clear keep4 hV HKZ HKV HOR HOW HB
              go_wp2_with fail
              have u0 := HK4.out.cell 0
              have u1 := HK4.out.cell 1
              have u2 := HK4.out.cell 2
              have u3 := HK4.out.cell 3
              simp only [zeroVote, List.set_cons_zero, List.set_cons_succ, List.getElem?_cons_zero, List.getElem?_cons_succ] at u0 u1 u2 u3
              exact bodyPost_ret (v := .agg #[.string (bstr it), .string (bstr dg), .slice A5 (sitesOf (isD dg) l).length c5, .slice A6 (sitesOf (notD dg) l).length c6]) (by simp [results, Tryz.results48, go_sem, u0, u1, u2, u3]) rfl
                ⟨_, _, by rw [HVV.out], by rw [HVV.out]; exact HR4.out, by rw [HVV.out]; exact HW4.out, HB4.out⟩
end Go.Proofs.YtpmonhilfpfiaaaGreatDoor
