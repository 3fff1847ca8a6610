/-
  'vote' of package care: the vote on the copies of one item.
  'vote' of the reference: the vote on the copies of one item.
  'votes' and 'Votes' of both packages.
-/
import Derived.Test.YtnkdcmibafjplaaGreatDoorProg
import Derived.Test.YtnkdcmibafjplaaGreatDoorVotePlain
import Derived.Test.YtnkdcmibafjplaaGreatDoorMaps
import Derived.Deep.Onto
import Derived.Test.YtnkdcmibafjplaaGreatDoorList
namespace Go.Proofs.YtnkdcmibafjplaaGreatDoor
open Go.RowKit
set_option linter.unusedVariables false
set_option linter.unusedSimpArgs false

theorem int_zero (w : World) : (zeroValue 3).run Tryz.prog w = .ok (.int .i64 0) w := by kernel_rfl
/-- A result: a vote whose rows lie in blocks of its own. -/
def VotePost (V : Vote) (w : World) (e : Ending) (w' : World) : Prop :=
  ∃ vr vw, e = .returned (.agg #[.string (bstr V.item), .string (bstr V.digest), vr, vw]) ∧ w'.ownsRow w.heap.size 9 1 vr V.right.length (strs V.right) ∧ w'.ownsRow w.heap.size 9 1 vw V.wrong.length (strs V.wrong) ∧ Below w.heap.size w w'
theorem keyD (x : List UInt8) (h : x.length ≤ 9223372036854775807) : keyOf Tryz.prog 9 (.string (bstr x)) = some (.string x) :=
  WideMaps.keyOf_string_mk Tryz.underlying9 (by rw [bstr_size]; unfold maxLen; omega)
/-- The map of the weights with one more. -/
theorem of_put {s : List Site} {l : List Held} {k : Nat} {f : Lit → Option Int} (hk : k < l.length) (h : ∀ d, (f (.string d)).getD 0 = ofW s d (l.take k)) :
    ∀ d, ((fun x => if x.sameKey (.string l[k].digest) then some (ofW s l[k].digest (l.take k) + wtOf s l[k]) else f x) (.string d) : Option Int).getD 0 = ofW s d (l.take (k + 1)) := by
  intro d
  rw [ofW_take s d l k hk]
  by_cases e : d = l[k].digest
  · subst e
    dsimp only
    rw [if_pos (WideAt.sameKey_self (by trivial)), if_pos rfl]; rfl
  · dsimp only
    rw [if_neg (by rw [Maps.sameKey_ne (fun h => e (by injection h))]; simp), if_neg (Ne.symm e), h d]; omega
theorem held_at {w : World} {S : Nat → Prop} {v : Value} {l : List Held} (h : (Rp.sl heldRp).ok w S [v] l) {k : Nat} (hk : k < l.length) :
    ∃ ad c, v = .slice (some ad) l.length c ∧ S ad.block ∧ w.cell? (ad.add (k * 3)) = some (.string (bstr l[k].item)) ∧ w.cell? ⟨(ad.add (k * 3)).block, (ad.add (k * 3)).off + 1, none⟩ = some (.string (bstr l[k].site)) ∧
      w.cell? ⟨(ad.add (k * 3)).block, (ad.add (k * 3)).off + 2, none⟩ = some (.string (bstr l[k].digest)) ∧ l[k].item.length ≤ 9223372036854775807 ∧ l[k].site.length ≤ 9223372036854775807 ∧ l[k].digest.length ≤ 9223372036854775807 := by
  obtain ⟨A, c, rfl, _⟩ := Rp.sl_open h
  obtain ⟨ad, us, rfl, _, hb, hu, hcell⟩ := Rp.sl_at h hk
  obtain ⟨rfl, hz1, hz2, hz3⟩ := held_open hu
  unfold maxLen at hz1 hz2 hz3
  have c0 := hcell 0 _ rfl
  have c1 := hcell 1 _ rfl
  have c2 := hcell 2 _ rfl
  rw [add_fld _ _ _ (by omega)] at c1 c2
  exact ⟨ad, c, rfl, hb, c0, c1, c2, by omega, by omega, by omega⟩
theorem site_at {w : World} {S : Nat → Prop} {v : Value} {l : List Site} (h : (Rp.sl siteRp).ok w S [v] l) {k : Nat} (hk : k < l.length) :
    ∃ ad c, v = .slice (some ad) l.length c ∧ w.cell? ⟨(ad.add (k * 3)).block, (ad.add (k * 3)).off + 1, none⟩ = some (.int .i64 l[k].weight) := by
  obtain ⟨A, c, rfl, _⟩ := Rp.sl_open h
  obtain ⟨ad, us, rfl, _, hb, hu, hcell⟩ := Rp.sl_at h hk
  obtain ⟨rfl, hz1⟩ := site_open hu
  have c1 := hcell 1 _ rfl
  rw [add_fld _ _ _ (by omega)] at c1
  exact ⟨ad, c, rfl, c1⟩
theorem set_same (w : World) (a : Addr) (v : Value) : Same (fun k => k ≠ a.block) w (w.setCell a v) := fun k hk => heap_setCell_other _ _ _ _ hk
theorem grown_set (w : World) (b j : Nat) (v : Value) : w.grownBy (w.setCell ⟨b, j, none⟩ v) (some b) :=
  ⟨rfl, rfl, rfl, by simp [World.setCell], fun k _ hk => heap_setCell_other _ _ _ _ (fun e => hk (by rw [e]))⟩
/-- Two rows in blocks of their own each. -/
def Apt (v v' : Value) : Prop := ∀ g, v.ownBlock = some g → v'.ownBlock = some g → False
theorem Apt.symm {v v' : Value} (h : Apt v v') : Apt v' v := fun g a b => h g b a
theorem Apt.ne {v v' : Value} (h : Apt v v') : v'.ownBlock = none ∨ v'.ownBlock ≠ v.ownBlock := by
  cases hg : v'.ownBlock with
  | none => exact .inl rfl
  | some g => exact .inr fun e => h g e.symm hg
theorem Apt.grow2 {v v' : Value} {w : World} {g n c B size m : Nat} {e : TypeId} {xs : List Value} (h : Apt v v') (h1 : v.ownBlock = some g ∨ w.heap.size ≤ g) (ho : w.ownsRow B e size v' m xs) : Apt (.slice (some ⟨g, 0, none⟩) n c) v' := by
  intro g' a b
  injection a with a
  subst a
  rcases h1 with h1 | h1
  · exact h _ h1 b
  · have h2 : g < w.heap.size := (ho.lt _ b).2
    omega
theorem own_not {v : Value} {b : Nat} (h : ∀ g, v.ownBlock = some g → b + 1 ≤ g) : v.ownBlock = none ∨ v.ownBlock ≠ some b := by
  cases hg : v.ownBlock with
  | none => exact .inl rfl
  | some g => exact .inr fun e => by injection e with e; have := h g hg; omega
def zeroVote : List Value := [.string ⟨#[]⟩, .string ⟨#[]⟩, .slice none 0 0, .slice none 0 0]
set_option maxRecDepth 100000 in
set_option maxHeartbeats 4000000 in
theorem vote_any (v0 : Value) (s : List Site) (v1 : Value) (l : List Held) (w : World) (h0 : (Rp.sl siteRp).ok w (· < w.heap.size) [v0] s) (h1 : (Rp.sl heldRp).ok w (· < w.heap.size) [v1] l) (hv : VoteOk s l) :
    Calls Tryz.prog 71 #[v0, v1] w (VotePost (voteOf s l) w) := by
  obtain ⟨A, c, rfl, hl, hc, _⟩ := Rp.sl_open h1
  unfold maxLen at hc
  have hl3 : l.length ≤ 3000 := hv.2.2.2
  have hl0 : 0 < l.length := List.length_pos_iff.2 hv.2.2.1
  have H0 := Lib.hid h0
  have H1 := Lib.hid h1
  have HV := Lib.hid hv
  have HWT := Lib.hid (fun x (hx : x ∈ l) => wtOf_range hv hx)
  clear h0 h1 hv
  have hmm := @run_makeMap Tryz.prog
  go_enter Tryz.func71, Tryz.ntmps71
  go_wp2_with fail
  have HMM := Lib.hid hmm
  clear hmm
  have hba := (Below.refl w.heap.size w).alloc (Nat.le_refl _) (.cells #[.string ⟨#[]⟩, .string ⟨#[]⟩, .slice none 0 0, .slice none 0 0] 64)
  have HBM := Lib.hid (hba.alloc hba.size (.map #[] 0))
  have hblk0 : Blk ((w.alloc (.cells #[.string ⟨#[]⟩, .string ⟨#[]⟩, .slice none 0 0, .slice none 0 0] 64)).alloc (.map #[] 0)) w.heap.size 64 zeroVote :=
    (Blk.new w 64 zeroVote).same (same_below ((Below.refl (w.alloc (.cells zeroVote.toArray 64)).heap.size _).alloc (Nat.le_refl _) (.map #[] 0))) (by simp)
  have hi0 := IMap.made (P := Tryz.prog) (K := 9) (E := 3) (q := .i64) (w.alloc (.cells #[.string ⟨#[]⟩, .string ⟨#[]⟩, .slice none 0 0, .slice none 0 0] 64))
  rw [World.size_alloc] at hi0
  have HBK0 := Lib.hid hblk0
  have HI0 := Lib.hid hi0
  clear hba hblk0 hi0
  go_loopw [5, 18] (fun va i wr => ∃ (k : Nat) (f : Lit → Option Int), k ≤ l.length ∧ i = .int .i64 k ∧ va = .int .i64 (sumW s (l.take k)) ∧ Hid (IMap Tryz.prog 9 3 .i64 wr (w.heap.size + 1) k f) ∧ Hid (∀ d, (f (.string d)).getD 0 = ofW s d (l.take k)) ∧
    Hid (Blk wr w.heap.size 64 zeroVote) ∧ Hid (Below w.heap.size w wr)) (fun _ i _ => l.length - (intOf i).toNat)
  case atStart => exact ⟨0, fun _ => none, by omega, rfl, rfl, HI0.out, (fun d => rfl), HBK0.out, HBM.out⟩
  case round =>
    obtain ⟨k, f, hk, rfl, rfl, HI, HF, HK, HB⟩ := hrel
    by_cases hlt : k < l.length
    · obtain ⟨ad, c', e1, hadb, c0, c1, c2, hz1, hz2, hz3⟩ := held_at (Rp.below _ H1.out HB.out) hlt
      injection e1 with e1 _ e3
      subst e1 e3
      have hwr := HWT.out _ (List.getElem_mem hlt)
      obtain ⟨si, hsi, hidx⟩ := HV.out.1 _ (List.getElem_mem hlt)
      have hwd : wtOf s l[k] = s[si].weight := by rw [wtOf, hidx, Int.toNat_natCast, getD_at _ _ hsi]
      have hst := sumW_take s l k hlt
      have hsr := sumW_range (s := s) (l := l.take k) (fun x hx => HWT.out x (List.mem_of_mem_take hx))
      have hor := ofW_range (s := s) l[k].digest (l := l.take k) (fun x hx => HWT.out x (List.mem_of_mem_take hx))
      rw [List.length_take] at hsr hor
      have hput := of_put (s := s) hlt HF.out
      have HFD := Lib.hid (HF.out l[k].digest)
      have HPUT := Lib.hid hput
      have HST := Lib.hid hst
      clear hadb hput hst
      generalize l[k] = x at *
      obtain ⟨S0, hS0⟩ : ∃ S0, sumW s (l.take k) = S0 := ⟨_, rfl⟩
      obtain ⟨O0, hO0⟩ : ∃ O0, ofW s x.digest (l.take k) = O0 := ⟨_, rfl⟩
      rw [hS0] at HST hsr ⊢
      rw [hO0] at HFD HPUT hor
      obtain ⟨W0, hW0⟩ : ∃ W0, wtOf s x = W0 := ⟨_, rfl⟩
      rw [hW0] at HST HPUT hwr hwd
      clear hS0 hO0 hW0
      have HHB := Lib.hid (HB.out.alloc HB.out.size (.cells #[.string (bstr x.item), .string (bstr x.site), .string (bstr x.digest)] 54))
      have hkb := Blk.new wr 54 [.string (bstr x.item), .string (bstr x.site), .string (bstr x.digest)]
      have k1 : _ = some (Value.string (bstr x.site)) := hkb.cell 1
      go_wp2_with fail
      refine (siteAt_any v0 s x.site _ (Rp.ext _ H0.out HHB.out)).mono ?_
      rintro e w5 ⟨rfl, hb5⟩
      rw [hidx]
      have HB5 := Lib.hid (HHB.out.trans (hb5.mono HHB.out.size))
      have d2 : w5.cell? ⟨wr.heap.size, 2, none⟩ = some (.string (bstr x.digest)) := (hkb.same (same_below hb5) (by simp)).cell 2
      have hbw : Below wr.heap.size wr w5 := ((Below.refl wr.heap.size wr).alloc (Nat.le_refl _) _).trans (hb5.mono (by simp))
      have HI5 := Lib.hid (HI.out.below hbw HI.out.lt)
      have HK5 := Lib.hid (HK.out.same (same_below hbw) (by have := HI.out.lt; omega))
      obtain ⟨ads, cs, e2, cw⟩ := site_at (Rp.ext _ H0.out HB5.out) hsi
      rw [← hwd] at cw
      have hkey := keyD x.digest hz3
      have hlk := HI5.out.look (T := 100) (Maps.string_keyed Tryz.underlying9) Tryz.underlying100 Tryz.underlying3 int_zero hkey (by trivial)
      rw [HFD.out] at hlk
      have HKEY := Lib.hid hkey
      subst e2
      have hsl : (si : Int) < (s.length : Int) := by omega
      clear hb5 hkb k1 hbw hkey hidx c0 c1 c2 hwd HI HK
      go_wp2_with (at_mapUpdate; refine imap_update rfl _ _ _ 100 rfl HI5.out (Maps.string_keyed Tryz.underlying9) Tryz.underlying100 Tryz.underlying3 (by unfold maxLen; omega) (.string x.digest) rfl rfl rfl (WalkArith.wf_i64 (by omega)) HKEY.out (by trivial) ?_; intro w6 HI6 HG6)
      go_roundw
      case rel =>
        refine ⟨k + 1, _, by omega, by go_num, by rw [HST.out], HI6.out, HPUT.out, ?_, ?_⟩
        · exact HK5.out.same (grown_same HG6.out) ⟨by have := HI5.out.lt; omega, fun e => by injection e with e; omega⟩
        · exact HB5.out.grown HG6.out HB5.out.size (fun g e => by injection e with e; omega)
      case measure => simp [intOf]; omega
    · obtain rfl : k = l.length := by omega
      rw [List.take_length] at HF ⊢
      obtain ⟨ad, c', e1, hadb, c0, c1, c2, hz1, hz2, hz3⟩ := held_at (Rp.below _ H1.out HB.out) hl0
      injection e1 with e1 _ e3
      subst e1 e3
      rw [Nat.zero_mul, add_nil] at c0
      have hsr := sumW_range (s := s) (l := l) HWT.out
      obtain ⟨S0, hS0⟩ : ∃ S0, sumW s l = S0 := ⟨_, rfl⟩
      rw [hS0] at hsr ⊢
      have HS0 := Lib.hid hS0
      have hit : l[0].item = (voteOf s l).item := by
        rw [voteOf]
        cases l with
        | nil => simp at hl0
        | cons h t => rfl
      have HIT := Lib.hid hit
      clear hS0 hit hadb c1 c2
      generalize l[0].item = it at *
      have hkb := Blk.new wr 64 [.string (bstr it), .string ⟨#[]⟩, .slice none 0 0, .slice none 0 0]
      have hbw := (Below.refl wr.heap.size wr).alloc (Nat.le_refl _) (.cells #[.string (bstr it), .string ⟨#[]⟩, .slice none 0 0, .slice none 0 0] 64)
      have HI1 := Lib.hid (HI.out.below hbw HI.out.lt)
      have HKZ := Lib.hid (HK.out.same (same_below hbw) (by have := HI.out.lt; omega))
      have HB1 := Lib.hid (HB.out.alloc HB.out.size (.cells #[.string (bstr it), .string ⟨#[]⟩, .slice none 0 0, .slice none 0 0] 64))
      have HKV := Lib.hid hkb
      have hbm := HI.out.lt
      obtain ⟨bv, hbv⟩ : ∃ bv, bv = wr.heap.size := ⟨_, rfl⟩
      have hbv1 : bv < (wr.alloc (.cells #[.string (bstr it), .string ⟨#[]⟩, .slice none 0 0, .slice none 0 0] 64)).heap.size := by simp; omega
      rw [← hbv] at HKV hbm
      have HBV := Lib.hid hbv
      clear hkb hbw HI HK HB hbv hbv1
      go_wp2_with fail
      rw [← HBV.out]
      go_loopw [47] (fun i w2 => ∃ (k : Nat) (d : List UInt8), k ≤ l.length ∧ i = .int .i64 k ∧ Hid (IMap Tryz.prog 9 3 .i64 w2 (w.heap.size + 1) l.length f) ∧ Hid (voteDigGo s l (l.drop k) d = voteDig s l) ∧ Hid (Blk w2 w.heap.size 64 zeroVote) ∧
        Hid (Blk w2 bv 64 [.string (bstr it), .string (bstr d), .slice none 0 0, .slice none 0 0]) ∧ Hid (Below w.heap.size w w2)) (fun i _ => l.length - (intOf i).toNat)
      case atStart => exact ⟨0, [], by omega, rfl, HI1.out, rfl, HKZ.out, HKV.out, HB1.out⟩
      case round =>
        clear HI1 HKZ HKV HB1 c0
        obtain ⟨k, d, hk, rfl, HI, HVD, HKZ, HKV, HB⟩ := hrel
        by_cases hlt : k < l.length
        · obtain ⟨ad', c', e1, hadb, c0, c1, c2, hz1, hz2, hz3⟩ := held_at (Rp.below _ H1.out HB.out) hlt
          injection e1 with e1 _ e3
          injection e1 with e1
          subst e1 e3
          have hor := ofW_range (s := s) l[k].digest (l := l) HWT.out
          have HFD := Lib.hid (HF.out l[k].digest)
          have hvs := voteDigGo_step s l l k hlt d
          rw [HVD.out, HS0.out] at hvs
          have HVS := Lib.hid hvs
          clear hadb hvs
          generalize l[k] = x at *
          obtain ⟨O0, hO0⟩ : ∃ O0, ofW s x.digest l = O0 := ⟨_, rfl⟩
          rw [hO0] at HFD HVS hor
          clear hO0
          have hkb := Blk.new wr 54 [.string (bstr x.item), .string (bstr x.site), .string (bstr x.digest)]
          have k2 : _ = some (Value.string (bstr x.digest)) := hkb.cell 2
          have hbw := (Below.refl wr.heap.size wr).alloc (Nat.le_refl _) (.cells #[.string (bstr x.item), .string (bstr x.site), .string (bstr x.digest)] 54)
          have HI1 := Lib.hid (HI.out.below hbw HI.out.lt)
          have HKZ1 := Lib.hid (HKZ.out.same (same_below hbw) (by have := HI.out.lt; omega))
          have HKV1 := Lib.hid (HKV.out.same (same_below hbw) HKV.out.lt)
          have HB1 := Lib.hid (HB.out.alloc HB.out.size (.cells #[.string (bstr x.item), .string (bstr x.site), .string (bstr x.digest)] 54))
          have hkey := keyD x.digest hz3
          have hlk := HI1.out.look (T := 100) (Maps.string_keyed Tryz.underlying9) Tryz.underlying100 Tryz.underlying3 int_zero hkey (by trivial)
          rw [HFD.out] at hlk
          have fv := HKV1.out.frozen 1
          have v1 : _ = some (Value.string (bstr d)) := HKV1.out.cell 1
          have hw2 : IntKind.i64.wrap (2 * O0) = 2 * O0 := IntWalk.i64_in _ (by omega)
          clear hkb hbw hkey
          by_cases hgt : S0 < 2 * O0
          · rw [if_pos hgt] at HVS
            have HS1 := Lib.hid (HKZ1.out.same (set_same _ ⟨bv, 1, none⟩ (.string (bstr x.digest))) (by show w.heap.size ≠ bv; omega))
            have HS2 := Lib.hid (HI1.out.same (set_same _ ⟨bv, 1, none⟩ (.string (bstr x.digest))) (by show w.heap.size + 1 ≠ bv; omega))
            have HS3 := Lib.hid (HKV1.out.set_ 1 (.string (bstr x.digest)))
            have HS4 := Lib.hid (HB1.out.setCell (p := ⟨bv, 1, none⟩) (by show w.heap.size ≤ bv; omega) (.string (bstr x.digest)))
            clear HI1 HKZ1 HKV1 HB1
            go_wp2_with fail
            go_roundw
            case rel => exact ⟨k + 1, x.digest, by omega, by go_num, HS2.out, HVS.out.symm, HS1.out, HS3.out, HS4.out⟩
            case measure => simp [intOf]; omega
          · rw [if_neg hgt] at HVS
            go_wp2_with fail
            go_roundw
            case rel => exact ⟨k + 1, d, by omega, by go_num, HI1.out, HVS.out.symm, HKZ1.out, HKV1.out, HB1.out⟩
            case measure => simp [intOf]; omega
        · obtain rfl : k = l.length := by omega
          rw [List.drop_length] at HVD
          obtain rfl : d = voteDig s l := HVD.out
          have HB0 := HB
          have HKZ0 := HKZ
          have HKV0 := HKV
          have hdl : (voteDig s l).length ≤ (voteDig s l).length := Nat.le_refl _
          generalize hdg : voteDig s l = dg at *
          have HDG := Lib.hid hdg
          clear HI HVD HKZ HKV HB hlt hk hdg
          go_wp2_with fail
          go_loopw [64] (fun i w3 => ∃ (k : Nat) (vr vw : Value), k ≤ l.length ∧ i = .int .i64 k ∧ Hid (Blk w3 bv 64 [.string (bstr it), .string (bstr dg), vr, vw]) ∧ Hid (Blk w3 w.heap.size 64 zeroVote) ∧
            Hid (w3.ownsRow (bv + 1) 9 1 vr (sitesOf (isD dg) (l.take k)).length (strs (sitesOf (isD dg) (l.take k)))) ∧ Hid (w3.ownsRow (bv + 1) 9 1 vw (sitesOf (notD dg) (l.take k)).length (strs (sitesOf (notD dg) (l.take k)))) ∧ Hid (Apt vr vw) ∧ Hid (Below w.heap.size w w3)) (fun i _ => l.length - (intOf i).toNat)
          case atStart => exact ⟨0, _, _, by omega, rfl, HKV0.out, HKZ0.out, World.ownsRow_nil _ _ _ _, World.ownsRow_nil _ _ _ _, (fun g a _ => by cases a), HB0.out⟩
          case round =>
            clear HB0 HKZ0 HKV0
            obtain ⟨k, vr, vw, hk, rfl, HKV, HKZ, HOR, HOW, HAP, HB⟩ := hrel
            by_cases hlt : k < l.length
            · obtain ⟨ad', c', e1, hadb, c0, c1, c2, hz1, hz2, hz3⟩ := held_at (Rp.below _ H1.out HB.out) hlt
              injection e1 with e1 _ e3
              injection e1 with e1
              subst e1 e3
              have hR := sitesOf_take (isD dg) l k hlt
              have hW := sitesOf_take (notD dg) l k hlt
              have hnl := sitesOf_len (isD dg) (l.take k)
              have hml := sitesOf_len (notD dg) (l.take k)
              rw [List.length_take] at hnl hml
              have HR := Lib.hid hR
              have HW := Lib.hid hW
              clear hadb hR hW
              generalize l[k] = x at *
              obtain ⟨n, hn⟩ : ∃ n, (sitesOf (isD dg) (l.take k)).length = n := ⟨_, rfl⟩
              obtain ⟨m, hm⟩ : ∃ m, (sitesOf (notD dg) (l.take k)).length = m := ⟨_, rfl⟩
              rw [hn] at HOR hnl
              rw [hm] at HOW hml
              have HN := Lib.hid hn
              have HM := Lib.hid hm
              have hn3 : n ≤ 3000 := by omega
              have hm3 : m ≤ 3000 := by omega
              clear hn hm hnl hml
              have hkb := Blk.new wr 54 [.string (bstr x.item), .string (bstr x.site), .string (bstr x.digest)]
              have k1 : _ = some (Value.string (bstr x.site)) := hkb.cell 1
              have k2 : _ = some (Value.string (bstr x.digest)) := hkb.cell 2
              have hbw := (Below.refl wr.heap.size wr).alloc (Nat.le_refl _) (.cells #[.string (bstr x.item), .string (bstr x.site), .string (bstr x.digest)] 54)
              have HKZ1 := Lib.hid (HKZ.out.same (same_below hbw) HKZ.out.lt)
              have hkv1 := HKV.out.same (same_below hbw) HKV.out.lt
              have HKV1 := Lib.hid hkv1
              have HOR1 := Lib.hid (own_below HOR.out hbw)
              have HOW1 := Lib.hid (own_below HOW.out hbw)
              have HB1 := Lib.hid (HB.out.alloc HB.out.size (.cells #[.string (bstr x.item), .string (bstr x.site), .string (bstr x.digest)] 54))
              have v1 : _ = some (Value.string (bstr dg)) := hkv1.cell 1
              have v2 : _ = some vr := hkv1.cell 2
              have v3 : _ = some vw := hkv1.cell 3
              have hlb := HKV1.out.lt
              have HSZ : Hid (bv + 1 ≤ (wr.alloc (.cells #[.string (bstr x.item), .string (bstr x.site), .string (bstr x.digest)] 54)).heap.size) := Lib.hid (by omega)
              have hwb : w.heap.size ≤ (wr.alloc (.cells #[.string (bstr x.item), .string (bstr x.site), .string (bstr x.digest)] 54)).heap.size := HB1.out.size
              obtain ⟨A5, c5, rfl, _⟩ := own_form HOR1.out
              obtain ⟨A6, c6, rfl, _⟩ := own_form HOW1.out
              clear hkb hbw hkv1 HOR HOW HKV HKZ HB
              by_cases hq : x.digest = dg
              · have hb1 : ((bstr x.digest).toList == (bstr dg).toList) = true := str_beq (by rw [hq])
                have HR2 : Hid (sitesOf (isD dg) (l.take (k + 1)) = sitesOf (isD dg) (l.take k) ++ [x.site]) := Lib.hid (by rw [HR.out, if_pos (show isD dg x.digest = true from decide_eq_true hq)])
                have HW2 : Hid (sitesOf (notD dg) (l.take (k + 1)) = sitesOf (notD dg) (l.take k) ++ []) := Lib.hid (by rw [HW.out, if_neg (by simp [notD, hq])])
                clear hq HR HW
                have fz := HKV1.out.frozen 2
                go_wp2_with (at_builtin; refine app_str rfl (.tmp 74) (.tmp 77) rfl HOR1.out HSZ.out rfl (by rw [World.size_alloc]; rfl) (by omega) ?_; intro g1 cc1 w9 HO9 HG9 HB9x HL9; have hkv9 := HKV1.out.same (grown_same HG9.out) ⟨HKV1.out.lt, fun e => by have := (HOR1.out.lt _ e.symm).1; omega⟩; have fz9 := hkv9.frozen 2; have v9 : w9.cell? ⟨bv, 2, none⟩ = some (.slice A5 n c5) := hkv9.cell 2; have HKV9 := Lib.hid hkv9)
                have HG10 := Lib.hid (grown_set w9 bv 2 (.slice (some ⟨g1, 0, none⟩) (n + 1) cc1))
                go_roundw
                case rel =>
                  refine ⟨k + 1, _, _, by omega, by go_num, HKV9.out.set_ 2 _, ?_, ?_, ?_, ?_, ?_⟩
                  · exact (HKZ1.out.same (grown_same HG9.out) ⟨HKZ1.out.lt, fun e => by have := (HOR1.out.lt _ e.symm).1; omega⟩).same (set_same _ _ _) (by show w.heap.size ≠ bv; omega)
                  · rw [HR2.out, strs_app, List.length_append, HN.out]
                    exact HO9.out.kept HG10.out (.inr fun e => by have := (HO9.out.lt _ rfl).1; injection e with e; omega)
                  · rw [HW2.out, List.append_nil, HM.out]
                    exact (HOW1.out.kept HG9.out HAP.out.ne).kept HG10.out (own_not (fun g hg => (HOW1.out.lt g hg).1))
                  · exact HAP.out.grow2 HL9.out HOW1.out
                  · exact (HB1.out.grown HG9.out (by omega) (fun g hg => by have := (HOR1.out.lt g hg).1; omega)).setCell (p := ⟨bv, 2, none⟩) (by show w.heap.size ≤ bv; omega) _
                case measure => simp [intOf]; omega
              · have hb1 : ((bstr x.digest).toList == (bstr dg).toList) = false := str_bne (fun e => hq (bstr_inj e))
                have HR2 : Hid (sitesOf (isD dg) (l.take (k + 1)) = sitesOf (isD dg) (l.take k) ++ []) := Lib.hid (by rw [HR.out, if_neg (by simp [isD, hq])])
                have HW2 : Hid (sitesOf (notD dg) (l.take (k + 1)) = sitesOf (notD dg) (l.take k) ++ [x.site]) := Lib.hid (by rw [HW.out, if_pos (show notD dg x.digest = true from decide_eq_true hq)])
                clear hq HR HW
                have fz := HKV1.out.frozen 3
                go_wp2_with (at_builtin; refine app_str rfl (.tmp 81) (.tmp 84) rfl HOW1.out HSZ.out rfl (by rw [World.size_alloc]; rfl) (by omega) ?_; intro g1 cc1 w9 HO9 HG9 HB9x HL9; have hkv9 := HKV1.out.same (grown_same HG9.out) ⟨HKV1.out.lt, fun e => by have := (HOW1.out.lt _ e.symm).1; omega⟩; have fz9 := hkv9.frozen 3; have v9 : w9.cell? ⟨bv, 3, none⟩ = some (.slice A6 m c6) := hkv9.cell 3; have HKV9 := Lib.hid hkv9)
                have HG10 := Lib.hid (grown_set w9 bv 3 (.slice (some ⟨g1, 0, none⟩) (m + 1) cc1))
                go_roundw
                case rel =>
                  refine ⟨k + 1, _, _, by omega, by go_num, HKV9.out.set_ 3 _, ?_, ?_, ?_, ?_, ?_⟩
                  · exact (HKZ1.out.same (grown_same HG9.out) ⟨HKZ1.out.lt, fun e => by have := (HOW1.out.lt _ e.symm).1; omega⟩).same (set_same _ _ _) (by show w.heap.size ≠ bv; omega)
                  · rw [HR2.out, List.append_nil, HN.out]
                    exact (HOR1.out.kept HG9.out HAP.out.symm.ne).kept HG10.out (own_not (fun g hg => (HOR1.out.lt g hg).1))
                  · rw [HW2.out, strs_app, List.length_append, HM.out]
                    exact HO9.out.kept HG10.out (.inr fun e => by have := (HO9.out.lt _ rfl).1; injection e with e; omega)
                  · exact (HAP.out.symm.grow2 HL9.out HOR1.out).symm
                  · exact (HB1.out.grown HG9.out (by omega) (fun g hg => by have := (HOW1.out.lt g hg).1; omega)).setCell (p := ⟨bv, 3, none⟩) (by show w.heap.size ≤ bv; omega) _
                case measure => simp [intOf]; omega
            · obtain rfl : k = l.length := by omega
              rw [List.take_length] at HOR HOW
              have hV : voteOf s l = ⟨it, dg, sitesOf (isD dg) l, sitesOf (notD dg) l⟩ := by
                have := HIT.out
                unfold voteOf at this ⊢
                rw [HDG.out] at this ⊢
                simp only [] at this
                rw [this]
              have HVV := Lib.hid hV
              obtain ⟨A5, c5, rfl, _⟩ := own_form HOR.out
              obtain ⟨A6, c6, rfl, _⟩ := own_form HOW.out
              have v0 : wr.cell? ⟨bv, 0, none⟩ = some (.string (bstr it)) := HKV.out.cell 0
              have v1 : wr.cell? ⟨bv, 1, none⟩ = some (.string (bstr dg)) := HKV.out.cell 1
              have v2 : wr.cell? ⟨bv, 2, none⟩ = some (.slice A5 (sitesOf (isD dg) l).length c5) := HKV.out.cell 2
              have v3 : wr.cell? ⟨bv, 3, none⟩ = some (.slice A6 (sitesOf (notD dg) l).length c6) := HKV.out.cell 3
              have z0 : wr.cell? ⟨w.heap.size, 0, none⟩ = some (.string ⟨#[]⟩) := HKZ.out.cell 0
              have z1 : wr.cell? ⟨w.heap.size, 1, none⟩ = some (.string ⟨#[]⟩) := HKZ.out.cell 1
              have z2 : wr.cell? ⟨w.heap.size, 2, none⟩ = some (.slice none 0 0) := HKZ.out.cell 2
              have z3 : wr.cell? ⟨w.heap.size, 3, none⟩ = some (.slice none 0 0) := HKZ.out.cell 3
              have y0 := HKZ.out.frozen 0
              have y1 := HKZ.out.frozen 1
              have y2 := HKZ.out.frozen 2
              have y3 := HKZ.out.frozen 3
              have HK4 := Lib.hid ((((HKZ.out.set_ 0 (.string (bstr it))).set_ 1 (.string (bstr dg))).set_ 2 (.slice A5 (sitesOf (isD dg) l).length c5)).set_ 3 (.slice A6 (sitesOf (notD dg) l).length c6))
              have hbw : w.heap.size ≤ bv + 1 := by omega
              have keep4 : ∀ {v : Value} {n : Nat} {xs : List Value}, wr.ownsRow (bv + 1) 9 1 v n xs → ((((wr.setCell ⟨w.heap.size, 0, none⟩ (.string (bstr it))).setCell ⟨w.heap.size, 1, none⟩ (.string (bstr dg))).setCell ⟨w.heap.size, 2, none⟩ (.slice A5 (sitesOf (isD dg) l).length c5)).setCell ⟨w.heap.size, 3, none⟩ (.slice A6 (sitesOf (notD dg) l).length c6)).ownsRow w.heap.size 9 1 v n xs := fun {v n xs} h => by
                have hn : v.ownBlock = none ∨ v.ownBlock ≠ some w.heap.size := by
                  cases hg : v.ownBlock with
                  | none => exact .inl rfl
                  | some g => exact .inr fun e => by injection e with e; have := (h.lt g hg).1; omega
                exact World.ownsRow.mono ((((h.kept (grown_set _ _ _ _) hn).kept (grown_set _ _ _ _) hn).kept (grown_set _ _ _ _) hn).kept (grown_set _ _ _ _) hn) hbw
              have HR4 := Lib.hid (keep4 HOR.out)
              have HW4 := Lib.hid (keep4 HOW.out)
              have HB4 := Lib.hid ((((HB.out.setCell (p := ⟨w.heap.size, 0, none⟩) (Nat.le_refl _) (.string (bstr it))).setCell (p := ⟨w.heap.size, 1, none⟩) (Nat.le_refl _) (.string (bstr dg))).setCell (p := ⟨w.heap.size, 2, none⟩) (Nat.le_refl _) (.slice A5 (sitesOf (isD dg) l).length c5)).setCell (p := ⟨w.heap.size, 3, none⟩) (Nat.le_refl _) (.slice A6 (sitesOf (notD dg) l).length c6))
              clear keep4 hV HKZ HKV HOR HOW HB
              go_wp2_with fail
              have u0 := HK4.out.cell 0
              have u1 := HK4.out.cell 1
              have u2 := HK4.out.cell 2
              have u3 := HK4.out.cell 3
              simp only [zeroVote, List.set_cons_zero, List.set_cons_succ, List.getElem?_cons_zero, List.getElem?_cons_succ] at u0 u1 u2 u3
              exact bodyPost_ret (v := .agg #[.string (bstr it), .string (bstr dg), .slice A5 (sitesOf (isD dg) l).length c5, .slice A6 (sitesOf (notD dg) l).length c6]) (by simp [results, Tryz.results71, go_sem, u0, u1, u2, u3]) rfl
                ⟨_, _, by rw [HVV.out], by rw [HVV.out]; exact HR4.out, by rw [HVV.out]; exact HW4.out, HB4.out⟩
end Go.Proofs.YtnkdcmibafjplaaGreatDoor
namespace Go.Proofs.YtnkdcmibafjplaaGreatDoor
open Go.RowKit
set_option linter.unusedVariables false
set_option linter.unusedSimpArgs false

end Go.Proofs.YtnkdcmibafjplaaGreatDoor
namespace Go.Proofs.YtnkdcmibafjplaaGreatDoor
open Go.RowKit
set_option linter.unusedVariables false
set_option linter.unusedSimpArgs false

def voteRp : Rp Vote := (Rp.pair Rp.str (Rp.pair Rp.str (Rp.pair (Rp.sl Rp.str) (Rp.sl Rp.str)))).via fun v => (bstr v.item, bstr v.digest, v.right.map bstr, v.wrong.map bstr)
theorem vote_mk {w : World} {S : Nat → Prop} {V : Vote} {v1 v2 : Value} (h1 : V.item.length ≤ maxLen) (h2 : V.digest.length ≤ maxLen) (h3 : (Rp.sl Rp.str).ok w S [v1] (V.right.map bstr)) (h4 : (Rp.sl Rp.str).ok w S [v2] (V.wrong.map bstr)) :
    voteRp.ok w S [.string (bstr V.item), .string (bstr V.digest), v1, v2] V :=
  ⟨[_], [_, _, _], rfl, ⟨rfl, h1⟩, ⟨[_], [_, _], rfl, ⟨rfl, h2⟩, ⟨[_], [_], rfl, h3, h4⟩⟩⟩
theorem vote_open {w : World} {S : Nat → Prop} {us : List Value} {V : Vote} (h : voteRp.ok w S us V) : ∃ v1 v2, us = [.string (bstr V.item), .string (bstr V.digest), v1, v2] ∧ V.item.length ≤ maxLen ∧ V.digest.length ≤ maxLen ∧ (Rp.sl Rp.str).ok w S [v1] (V.right.map bstr) ∧ (Rp.sl Rp.str).ok w S [v2] (V.wrong.map bstr) := by
  obtain ⟨_, _, rfl, ⟨rfl, h1⟩, ⟨_, _, rfl, ⟨rfl, h2⟩, ⟨_, _, rfl, h3, h4⟩⟩⟩ := h
  obtain ⟨v1, rfl⟩ := List.length_eq_one_iff.1 ((Rp.sl Rp.str).len h3)
  obtain ⟨v2, rfl⟩ := List.length_eq_one_iff.1 ((Rp.sl Rp.str).len h4)
  exact ⟨v1, v2, rfl, h1, h2, h3, h4⟩
theorem vote_info : (Tryz.prog.info? 64).map (fun i => (i.zero, i.size, i.bytes)) = some (some (.agg #[.string ⟨#[]⟩, .string ⟨#[]⟩, .slice none 0 0, .slice none 0 0]), 4, 80) := by kernel_rfl
/-- A part whose spare room is cut off. -/
theorem sl_cap {α : Type} {R : Rp α} {w : World} {S : Nat → Prop} {ad : Addr} {n c c' : Nat} {l : List α} (h : (Rp.sl R).ok w S [.slice (some ad) n c] l) (h1 : n ≤ c') (h2 : c' ≤ maxLen) : (Rp.sl R).ok w S [.slice (some ad) n c'] l := by
  obtain ⟨A', c'', e, hl, hm, h0, h3⟩ := h
  injection e with e; injection e with e1 e2 e3
  subst e1 e2 e3
  exact ⟨some ad, c', rfl, h1, h2, by simp, h3⟩
theorem held_sizes {w : World} {S : Nat → Prop} {v : Value} {l : List Held} (h : (Rp.sl heldRp).ok w S [v] l) : ∀ r ∈ l, r.item.length ≤ maxLen ∧ r.site.length ≤ maxLen ∧ r.digest.length ≤ maxLen := by
  intro r hr
  obtain ⟨k, hk, rfl⟩ := List.getElem_of_mem hr
  obtain ⟨A, cp, rfl, _⟩ := Rp.sl_open h
  obtain ⟨_, us, _, _, _, hu, _⟩ := Rp.sl_at h hk
  exact (held_open hu).2
theorem voteDig_size {s : List Site} {all : List Held} {n : Nat} : ∀ (l : List Held) (d : List UInt8), (∀ h ∈ l, h.digest.length ≤ n) → d.length ≤ n → (voteDigGo s all l d).length ≤ n
  | [], d, _, h => h
  | h :: l, d, hl, hd => by
    rw [voteDigGo]
    refine voteDig_size l _ (fun x hx => hl x (by simp [hx])) ?_
    split
    · exact hl h (by simp)
    · exact hd
theorem voteOf_sizes {s : List Site} {l : List Held} (h0 : l ≠ []) (h : ∀ r ∈ l, r.item.length ≤ maxLen ∧ r.site.length ≤ maxLen ∧ r.digest.length ≤ maxLen) :
    (voteOf s l).item.length ≤ maxLen ∧ (voteOf s l).digest.length ≤ maxLen ∧ (∀ x ∈ (voteOf s l).right, x.length ≤ maxLen) ∧ (∀ x ∈ (voteOf s l).wrong, x.length ≤ maxLen) := by
  refine ⟨?_, voteDig_size l [] (fun x hx => (h x hx).2.2) (Nat.zero_le _), fun x hx => ?_, fun x hx => ?_⟩
  · cases l with
    | nil => exact absurd rfl h0
    | cons a r => exact (h a (by simp)).1
  · obtain ⟨r, hr, rfl⟩ := sitesOf_mem hx
    exact (h r hr).2.1
  · obtain ⟨r, hr, rfl⟩ := sitesOf_mem hx
    exact (h r hr).2.1
theorem Drawn.cell {w w1 : World} (h : Drawn w w1) {p : Addr} {v : Value} (hc : w.cell? p = some v) : w1.cell? p = some v := by obtain ⟨n, rfl⟩ := h; exact hc
def VotesPost (s : List Site) (l : List Held) (w : World) (e : Ending) (w' : World) : Prop :=
  ∃ v, e = .returned v ∧ (Rp.sl voteRp).ok w' (· < w'.heap.size) [v] (votesOf s l) ∧ (votesOf s l).length ≤ l.length ∧ Below w.heap.size w w'
def votesTopL (s : List Site) (l : List Held) : List Vote := if copiesFault s l = 0 then votesOf s l else []
def VotesTop (s : List Site) (l : List Held) (w : World) (e : Ending) (w' : World) : Prop :=
  ∃ v, e = .returned (.tuple #[v, .int .i64 (copiesFault s l)]) ∧ (Rp.sl voteRp).ok w' (· < w'.heap.size) [v] (votesTopL s l) ∧ Below w.heap.size w w'
set_option maxRecDepth 100000 in
set_option maxHeartbeats 4000000 in
theorem votes_any (v0 : Value) (s : List Site) (v1 : Value) (l : List Held) (w : World) (h0 : (Rp.sl siteRp).ok w (· < w.heap.size) [v0] s) (h1 : (Rp.sl heldRp).ok w (· < w.heap.size) [v1] l) (hf : copiesFault s l = 0) :
    Calls Tryz.prog 34 #[v0, v1] w (VotesPost s l w) := by
  obtain ⟨A, c, rfl, hl, hc, _⟩ := Rp.sl_open h1
  have hcm := hc
  unfold maxLen at hc
  have hl3 : l.length ≤ 3000 := (copies_ok hf).2.1
  have H0 := Lib.hid h0
  have H1 := Lib.hid h1
  have HOK := Lib.hid (fun h => copies_VoteOk (s := s) (l := l) hf h)
  have HSZ := Lib.hid (held_sizes h1)
  have HCM := Lib.hid hcm
  clear h0 h1 hf hcm
  go_enter Tryz.func34, Tryz.ntmps34
  go_wp2_with fail
  go_loopw [5, 6] (fun vo vi wr => ∃ (i : Nat) (outs : List Vote), i ≤ l.length ∧ outs.length ≤ i ∧ vi = .int .i64 i ∧ Hid (Rows voteRp 64 w.heap.size wr vo outs) ∧ Hid (outs ++ votesOf s (l.drop i) = votesOf s l) ∧ Hid (Below w.heap.size w wr)) (fun _ vi _ => l.length - (intOf vi).toNat)
  case atStart => exact ⟨0, [], by omega, by simp, rfl, Rows.nil _ _ _ _, rfl, Below.refl _ _⟩
  case round =>
    obtain ⟨i, outs, hi, hoi, rfl, HO, HG, HB⟩ := hrel
    by_cases hlt : i < l.length
    · obtain ⟨ad, c', e1, hadb, q0, _, _, _, _, _⟩ := held_at (Rp.below _ H1.out HB.out) hlt
      injection e1 with e1 _ e3
      subst e1 e3
      have HO0 := HO
      have HB0 := HB
      obtain ⟨w0, hw0⟩ : ∃ w0, w0 = wr := ⟨_, rfl⟩
      have Q0 : Hid (w0.cell? (ad.add (i * 3)) = some (.string (bstr l[i].item))) := Lib.hid (by rw [hw0]; exact q0)
      rw [← hw0] at HO0 HB0
      clear HO HB q0
      obtain ⟨vo, hvo⟩ : ∃ vo, Hid (Rows voteRp 64 w.heap.size w0 vo outs) := ⟨_, HO0⟩
      clear hvo
      go_wp2_with fail
      rw [← hw0]
      clear hw0
      go_loopw [7] (fun vk wr => ∃ (k : Nat), i ≤ k ∧ k ≤ l.length ∧ vk = .int .i64 k ∧ Hid (∀ j, i ≤ j → j < k → ∀ hj : j < l.length, l[j].item = l[i].item) ∧ Hid (Drawn w0 wr)) (fun vk _ => l.length - (intOf vk).toNat)
      case atStart => exact ⟨i, by omega, hi, rfl, (fun j h1 h2 => by omega), Drawn.refl _⟩
      case round =>
        obtain ⟨k, hik, hk, rfl, HA, HD⟩ := hrel
        by_cases hkl : k < l.length
        · obtain ⟨ad', c', e1, _, c0, _, _, _, _, _⟩ := held_at (Rp.drawn _ (Rp.below _ H1.out HB0.out) HD.out) hkl
          injection e1 with e1 _ e3
          injection e1 with e1
          subst e1 e3
          have d0 := HD.out.cell Q0.out
          by_cases hq : l[k].item = l[i].item
          · have hb1 : ((bstr l[k].item).toList == (bstr l[i].item).toList) = true := str_beq (by rw [hq])
            have HA2 : Hid (∀ j, i ≤ j → j < k + 1 → ∀ hj : j < l.length, l[j].item = l[i].item) := Lib.hid (fun j h1 h2 hj => by
              by_cases hjk : j = k
              · subst hjk; exact hq
              · exact HA.out j h1 (by omega) hj)
            clear hq HA
            have p1 : (0 : Int) ≤ k ∧ (k : Int) < l.length := by omega
            have p2 : (0 : Int) ≤ i ∧ (i : Int) < l.length := by omega
            go_wp2_with fail
            go_quiet (fail)
            go_wp2_with fail
            go_roundw
            case rel => exact ⟨k + 1, by omega, by omega, by go_num, HA2.out, HD.out.more _⟩
            case measure => simp [intOf]; omega
          · have hb1 : ((bstr l[k].item).toList == (bstr l[i].item).toList) = false := str_bne (fun e => hq (bstr_inj e))
            have hik' : i < k := by rcases Nat.lt_or_ge i k with h | h; exact h; exact absurd (by obtain rfl : k = i := (by omega); rfl) hq
            have HST := Lib.hid (votesOf_step (s := s) hlt hik' hk HA.out (fun _ => hq))
            clear hq HA
            have p1 : (0 : Int) ≤ k ∧ (k : Int) < l.length := by omega
            have p2 : (0 : Int) ≤ i ∧ (i : Int) < l.length := by omega
            go_wp2_with fail
            go_quiet (fail)
            have HDX := Lib.hid (HD.out.more nq)
            have hl0 : l ≠ [] := fun e => by rw [e] at hlt; simp at hlt
            have hpl : ((l.drop i).take (k - i)).length = k - i := by rw [List.length_take, List.length_drop]; omega
            have hok := (HOK.out hl0).part (m := (l.drop i).take (k - i)) (fun x hx => List.mem_of_mem_drop (List.mem_of_mem_take hx)) (fun e => by rw [e] at hpl; simp at hpl; omega) (by omega)
            have hvs := voteOf_sizes (s := s) (l := (l.drop i).take (k - i)) (fun e => by rw [e] at hpl; simp at hpl; omega) (fun r hr => HSZ.out r (List.mem_of_mem_drop (List.mem_of_mem_take hr)))
            have HVS := Lib.hid hvs
            have HOKP := Lib.hid hok
            have hsz7 := HDX.out.size
            have HBW := Lib.hid (HDX.out.below HB0.out)
            have HS7 := Lib.hid (Rp.drawn _ (Rp.below _ H0.out HB0.out) HDX.out)
            have HR7 := Lib.hid (sl_cap (Rp.sl_cut (Rp.drawn _ (Rp.below _ H1.out HB0.out) HDX.out) hik' hk) (show k - i ≤ (k - i) by omega) (by have := HCM.out; unfold maxLen at this ⊢; omega))
            obtain ⟨A5, c5, rfl, hn5, hc5, hown5⟩ := HO0.out.form
            obtain ⟨xs, hown, hpush⟩ := HO0.out.open_ (by decide)
            have HOWN := Lib.hid hown5
            have HO := Lib.hid hown
            have HPU := Lib.hid hpush
            have hwsz := HB0.out.size
            have hGG := HG.out
            rw [HST.out] at hGG
            have HGG := Lib.hid hGG
            generalize hpart : (l.drop i).take (k - i) = part at *
            have HPART := Lib.hid hpart
            clear hl0 hok hvs hown5 hown hpush hGG hpart HG
            go_wp2_with fail
            refine (vote_any v0 s _ part _ (Rp.sub _ HS7.out (fun g hg => by have hg : g < w.heap.size := hg; show g < (wr.drewN nq).heap.size; omega)) (Rp.sub _ HR7.out (fun g hg => by have hg : g < w.heap.size := hg; show g < (wr.drewN nq).heap.size; omega)) HOKP.out).mono ?_
            rintro e w7 ⟨vr, vw, rfl, hvr, hvw, hb7⟩
            have HBQ : Hid (Below w0.heap.size w0 w7) := Lib.hid ((HDX.out.below (Below.refl w0.heap.size w0)).trans (hb7.mono (by rw [hsz7]; exact Nat.le_refl _)))
            have HBX := Lib.hid (HB0.out.trans (HBQ.out.mono HB0.out.size))
            have HO7 := Lib.hid (HO.out.kept (below_grown HBQ.out) (by cases hvv : (Value.slice A5 outs.length c5).ownBlock <;> simp))
            have hs7 := HBX.out.size
            have HVV := Lib.hid (vote_mk (V := voteOf s part) (w := w7) (S := fun b => b < w7.heap.size ∧ (Value.slice A5 outs.length c5).ownBlock ≠ some b) HVS.out.1 HVS.out.2.1
              (Rp.str_own (l := (voteOf s part).right.map bstr) (by rw [List.map_map]; exact hvr) (fun x hx => by obtain ⟨y, hy, rfl⟩ := List.mem_map.1 hx; rw [bstr_size]; exact HVS.out.2.2.1 y hy) (fun g hg => ⟨(hvr.lt g hg).2, fun e => by have h1 := (HOWN.out g e).2; have h2 := (hvr.lt g hg).1; have h3 : (wr.drewN nq).heap.size = w0.heap.size := hsz7; omega⟩))
              (Rp.str_own (l := (voteOf s part).wrong.map bstr) (by rw [List.map_map]; exact hvw) (fun x hx => by obtain ⟨y, hy, rfl⟩ := List.mem_map.1 hx; rw [bstr_size]; exact HVS.out.2.2.2 y hy) (fun g hg => ⟨(hvw.lt g hg).2, fun e => by have h1 := (HOWN.out g e).2; have h2 := (hvw.lt g hg).1; have h3 : (wr.drewN nq).heap.size = w0.heap.size := hsz7; omega⟩)))
            obtain ⟨A7, c7, rfl, _⟩ := own_form hvr
            obtain ⟨A8, c8, rfl, _⟩ := own_form hvw
            clear hvr hvw hb7
            go_wp2_with (at_builtin; refine app_new (w := w7) rfl (.tmp 32) (.tmp 40) 60 rfl 64 (.agg #[.string ⟨#[]⟩, .string ⟨#[]⟩, .slice none 0 0, .slice none 0 0]) 4 80 Tryz.underlying60 vote_info rfl (by decide) (m := 1) [.string (bstr (voteOf s part).item), .string (bstr (voteOf s part).digest), .slice A7 (voteOf s part).right.length c7, .slice A8 (voteOf s part).wrong.length c8] HO7.out hs7 rfl rfl rfl (by decide) (by simp [Value.oneCell']) (by unfold maxLen; omega) (by omega) ?_; intro g1 cc1 w8 HO8 HG8 HB8 HL8)
            go_roundw
            case rel =>
              refine ⟨k, outs ++ [voteOf s part], hk, by rw [List.length_append, List.length_singleton]; omega, rfl, ?_, by rw [List.append_assoc, List.singleton_append]; exact HGG.out, HB8.out _ HBX.out⟩
              exact HPU.out w7 w8 g1 cc1 _ _ (below_grown HBQ.out) HVV.out HG8.out HO8.out HL8.out
            case measure => simp [intOf]; omega
        · have hik' : i < k := by omega
          have HST := Lib.hid (votesOf_step (s := s) hlt hik' hk HA.out (fun h => absurd h hkl))
          clear HA
          have p1 : ¬ (k : Int) < l.length := by omega
          go_wp2_with fail
          go_quiet (fail)
          have HDX := Lib.hid (HD.out.more nq)
          have hl0 : l ≠ [] := fun e => by rw [e] at hlt; simp at hlt
          have hpl : ((l.drop i).take (k - i)).length = k - i := by rw [List.length_take, List.length_drop]; omega
          have hok := (HOK.out hl0).part (m := (l.drop i).take (k - i)) (fun x hx => List.mem_of_mem_drop (List.mem_of_mem_take hx)) (fun e => by rw [e] at hpl; simp at hpl; omega) (by omega)
          have hvs := voteOf_sizes (s := s) (l := (l.drop i).take (k - i)) (fun e => by rw [e] at hpl; simp at hpl; omega) (fun r hr => HSZ.out r (List.mem_of_mem_drop (List.mem_of_mem_take hr)))
          have HVS := Lib.hid hvs
          have HOKP := Lib.hid hok
          have hsz7 := HDX.out.size
          have HBW := Lib.hid (HDX.out.below HB0.out)
          have HS7 := Lib.hid (Rp.drawn _ (Rp.below _ H0.out HB0.out) HDX.out)
          have HR7 := Lib.hid (sl_cap (Rp.sl_cut (Rp.drawn _ (Rp.below _ H1.out HB0.out) HDX.out) hik' hk) (show k - i ≤ (k - i) by omega) (by have := HCM.out; unfold maxLen at this ⊢; omega))
          obtain ⟨A5, c5, rfl, hn5, hc5, hown5⟩ := HO0.out.form
          obtain ⟨xs, hown, hpush⟩ := HO0.out.open_ (by decide)
          have HOWN := Lib.hid hown5
          have HO := Lib.hid hown
          have HPU := Lib.hid hpush
          have hwsz := HB0.out.size
          have hGG := HG.out
          rw [HST.out] at hGG
          have HGG := Lib.hid hGG
          generalize hpart : (l.drop i).take (k - i) = part at *
          have HPART := Lib.hid hpart
          clear hl0 hok hvs hown5 hown hpush hGG hpart HG
          go_wp2_with fail
          refine (vote_any v0 s _ part _ (Rp.sub _ HS7.out (fun g hg => by have hg : g < w.heap.size := hg; show g < (wr.drewN nq).heap.size; omega)) (Rp.sub _ HR7.out (fun g hg => by have hg : g < w.heap.size := hg; show g < (wr.drewN nq).heap.size; omega)) HOKP.out).mono ?_
          rintro e w7 ⟨vr, vw, rfl, hvr, hvw, hb7⟩
          have HBQ : Hid (Below w0.heap.size w0 w7) := Lib.hid ((HDX.out.below (Below.refl w0.heap.size w0)).trans (hb7.mono (by rw [hsz7]; exact Nat.le_refl _)))
          have HBX := Lib.hid (HB0.out.trans (HBQ.out.mono HB0.out.size))
          have HO7 := Lib.hid (HO.out.kept (below_grown HBQ.out) (by cases hvv : (Value.slice A5 outs.length c5).ownBlock <;> simp))
          have hs7 := HBX.out.size
          have HVV := Lib.hid (vote_mk (V := voteOf s part) (w := w7) (S := fun b => b < w7.heap.size ∧ (Value.slice A5 outs.length c5).ownBlock ≠ some b) HVS.out.1 HVS.out.2.1
            (Rp.str_own (l := (voteOf s part).right.map bstr) (by rw [List.map_map]; exact hvr) (fun x hx => by obtain ⟨y, hy, rfl⟩ := List.mem_map.1 hx; rw [bstr_size]; exact HVS.out.2.2.1 y hy) (fun g hg => ⟨(hvr.lt g hg).2, fun e => by have h1 := (HOWN.out g e).2; have h2 := (hvr.lt g hg).1; have h3 : (wr.drewN nq).heap.size = w0.heap.size := hsz7; omega⟩))
            (Rp.str_own (l := (voteOf s part).wrong.map bstr) (by rw [List.map_map]; exact hvw) (fun x hx => by obtain ⟨y, hy, rfl⟩ := List.mem_map.1 hx; rw [bstr_size]; exact HVS.out.2.2.2 y hy) (fun g hg => ⟨(hvw.lt g hg).2, fun e => by have h1 := (HOWN.out g e).2; have h2 := (hvw.lt g hg).1; have h3 : (wr.drewN nq).heap.size = w0.heap.size := hsz7; omega⟩)))
          obtain ⟨A7, c7, rfl, _⟩ := own_form hvr
          obtain ⟨A8, c8, rfl, _⟩ := own_form hvw
          clear hvr hvw hb7
          go_wp2_with (at_builtin; refine app_new (w := w7) rfl (.tmp 32) (.tmp 40) 60 rfl 64 (.agg #[.string ⟨#[]⟩, .string ⟨#[]⟩, .slice none 0 0, .slice none 0 0]) 4 80 Tryz.underlying60 vote_info rfl (by decide) (m := 1) [.string (bstr (voteOf s part).item), .string (bstr (voteOf s part).digest), .slice A7 (voteOf s part).right.length c7, .slice A8 (voteOf s part).wrong.length c8] HO7.out hs7 rfl rfl rfl (by decide) (by simp [Value.oneCell']) (by unfold maxLen; omega) (by omega) ?_; intro g1 cc1 w8 HO8 HG8 HB8 HL8)
          go_roundw
          case rel =>
            refine ⟨k, outs ++ [voteOf s part], hk, by rw [List.length_append, List.length_singleton]; omega, rfl, ?_, by rw [List.append_assoc, List.singleton_append]; exact HGG.out, HB8.out _ HBX.out⟩
            exact HPU.out w7 w8 g1 cc1 _ _ (below_grown HBQ.out) HVV.out HG8.out HO8.out HL8.out
          case measure => simp [intOf]; omega
    · obtain rfl : i = l.length := by omega
      have hG := HG.out
      rw [List.drop_length, votesOf_nil, List.append_nil] at hG
      subst hG
      obtain ⟨A5, c5, rfl, _⟩ := HO.out.form
      have HP := Lib.hid (show VotesPost s l w (.returned (.slice A5 (votesOf s l).length c5)) wr from ⟨_, rfl, HO.out.read (by decide), hoi, HB.out⟩)
      go_wp2
      go_ret
      exact HP.out
end Go.Proofs.YtnkdcmibafjplaaGreatDoor
