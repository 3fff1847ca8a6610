/-
  Appeals: how they read; 'checkAppeal' and 'take' of package rights.
-/
import Derived.Test.YtgbpnghgcffkbaaDoorAppP
import Derived.Test.YtgbpnghgcffkbaaDoorRgtC
import Derived.Test.YtgbpnghgcffkbaaDoorAsk
namespace Go.Proofs.YtgbpnghgcffkbaaDoor
open Go.RowKit
set_option linter.unusedVariables false
set_option linter.unusedSimpArgs false

def appCells (x : App) : List Value := [.string (bstr x.id), .int .i64 x.kind, .int .i64 x.at_, .string (bstr x.pre)]
def appRp : Rp App := (Rp.pair Rp.str (Rp.pair (Rp.int .i64) (Rp.pair (Rp.int .i64) Rp.str))).via fun r => (bstr r.id, r.kind, r.at_, bstr r.pre)
def AppOk (c : App) : Prop := c.id.length ≤ maxLen ∧ (Lit.int .i64 c.kind).wf = true ∧ (Lit.int .i64 c.at_).wf = true ∧ c.pre.length ≤ maxLen
theorem app_open {w : World} {S : Nat → Prop} {us : List Value} {c : App} (h : appRp.ok w S us c) : us = appCells c ∧ AppOk c := by
  obtain ⟨_, _, rfl, ⟨rfl, h0⟩, ⟨_, _, rfl, ⟨rfl, h1⟩, ⟨_, _, rfl, ⟨rfl, h2⟩, ⟨rfl, h3⟩⟩⟩⟩ := h
  exact ⟨rfl, h0, h1, h2, h3⟩
theorem opens_app : Opens Tryd.prog 42 appRp := by
  refine opens_via _ (fun (p : ByteArray × Int × Int × ByteArray) => ⟨p.1.data.toList, p.2.1, p.2.2.1, p.2.2.2.data.toList⟩) (fun p => by rw [bstr_eq, bstr_eq]) ?_
  refine opens_struct Tryd.underlying42 (by kernel_rfl) ?_
  refine opensF_cons (by rfl) (by kernel_rfl) (opens_str Tryd.underlying9) ?_
  refine opensF_cons (by rfl) (by kernel_rfl) (opens_int Tryd.underlying3) ?_
  refine opensF_cons (by rfl) (by kernel_rfl) (opens_int Tryd.underlying3) ?_
  exact opensF_one (by rfl) (by kernel_rfl) (opens_str Tryd.underlying9)
theorem opens_apps : Opens Tryd.prog 22 (Rp.sl appRp) := opens_sl Tryd.underlying22 (by kernel_rfl) (by decide) (of_decide_eq_true (by kernel_rfl)) opens_app
theorem app_at {w : World} {S : Nat → Prop} {v : Value} {l : List App} (h : (Rp.sl appRp).ok w S [v] l) {k : Nat} (hk : k < l.length) :
    ∃ ad c, v = .slice (some ad) l.length c ∧ S ad.block ∧ w.cell? (ad.add (k * 4)) = some (.string (bstr l[k].id)) ∧ w.cell? ⟨(ad.add (k * 4)).block, (ad.add (k * 4)).off + 1, none⟩ = some (.int .i64 l[k].kind) ∧ w.cell? ⟨(ad.add (k * 4)).block, (ad.add (k * 4)).off + 2, none⟩ = some (.int .i64 l[k].at_) ∧ w.cell? ⟨(ad.add (k * 4)).block, (ad.add (k * 4)).off + 3, none⟩ = some (.string (bstr l[k].pre)) ∧ AppOk l[k] := by
  obtain ⟨A, c, rfl, _⟩ := Rp.sl_open h
  obtain ⟨ad, us, rfl, _, hb, hu, hcell⟩ := Rp.sl_at h hk
  obtain ⟨rfl, hz⟩ := app_open hu
  refine ⟨ad, c, rfl, hb, ?_, ?_, ?_, ?_, hz⟩
  · have := hcell 0 _ rfl
    simpa [appRp, Rp.via, Rp.pair, Rp.int, Rp.str] using this
  · have := hcell 1 _ rfl
    rw [← add_fld ad (k * 4) 1 (by decide)]
    simpa [appRp, Rp.via, Rp.pair, Rp.int, Rp.str] using this
  · have := hcell 2 _ rfl
    rw [← add_fld ad (k * 4) 2 (by decide)]
    simpa [appRp, Rp.via, Rp.pair, Rp.int, Rp.str] using this
  · have := hcell 3 _ rfl
    rw [← add_fld ad (k * 4) 3 (by decide)]
    simpa [appRp, Rp.via, Rp.pair, Rp.int, Rp.str] using this
def reqCells (r : Req) : List Value := [.string (bstr r.ask.id), .int .i64 r.ask.kind, .int .i64 r.ask.at_, .string (bstr r.ask.pre), .int .i64 r.state, .bool r.grant, .int .i64 r.end_]
set_option maxRecDepth 100000 in
set_option maxHeartbeats 1000000 in
theorem checkAppeal_any (x : App) (w : World) (hxi : x.id.length ≤ 9223372036854775807) (hxp : x.pre.length ≤ 9223372036854775807) :
    Calls Tryd.prog 30 #[.agg #[.string (bstr x.id), .int .i64 x.kind, .int .i64 x.at_, .string (bstr x.pre)]] w fun e w' => e = .returned (.int .i64 (appF x)) ∧ Below w.heap.size w w' := by
  have hl0 := (Below.refl w.heap.size _).alloc (Nat.le_refl _) (.cells #[.string (bstr x.id), .int .i64 x.kind, .int .i64 x.at_, .string (bstr x.pre)] 42)
  have HBA : Hid (Below w.heap.size w (w.alloc (.cells #[.string (bstr x.id), .int .i64 x.kind, .int .i64 x.at_, .string (bstr x.pre)] 42))) := Lib.hid (hl0)
  have hk0 : Blk (w.alloc (.cells #[.string (bstr x.id), .int .i64 x.kind, .int .i64 x.at_, .string (bstr x.pre)] 42)) (w.heap.size) 42 [.string (bstr x.id), .int .i64 x.kind, .int .i64 x.at_, .string (bstr x.pre)] := by
    have h := Blk.new w 42 [.string (bstr x.id), .int .i64 x.kind, .int .i64 x.at_, .string (bstr x.pre)]
    simpa only [World.size_alloc] using h
  have HKXA := Lib.hid hk0
  clear hl0 hk0
  go_enter Tryd.func30, Tryd.ntmps30
  have x0 : (w.alloc (.cells #[.string (bstr x.id), .int .i64 x.kind, .int .i64 x.at_, .string (bstr x.pre)] 42)).cell? ⟨w.heap.size, 0, none⟩ = some (.string (bstr x.id)) := HKXA.out.cell 0
  have x1 : (w.alloc (.cells #[.string (bstr x.id), .int .i64 x.kind, .int .i64 x.at_, .string (bstr x.pre)] 42)).cell? ⟨w.heap.size, 1, none⟩ = some (.int .i64 x.kind) := HKXA.out.cell 1
  have x2 : (w.alloc (.cells #[.string (bstr x.id), .int .i64 x.kind, .int .i64 x.at_, .string (bstr x.pre)] 42)).cell? ⟨w.heap.size, 2, none⟩ = some (.int .i64 x.at_) := HKXA.out.cell 2
  have x3 : (w.alloc (.cells #[.string (bstr x.id), .int .i64 x.kind, .int .i64 x.at_, .string (bstr x.pre)] 42)).cell? ⟨w.heap.size, 3, none⟩ = some (.string (bstr x.pre)) := HKXA.out.cell 3
  have HR : Hid (appF x = if withinB x.kind 1 4 = false then 4 else if isNm x.id = false then 5 else if withinB x.at_ 0 253402300799 = false then 1 else if isPre x.pre = false ∨ (decide (x.kind = 1) != decide (x.pre ≠ [])) = true then 3 else 0) := Lib.hid rfl
  go_wp2_with fail
  clear x0 x1 x2 x3
  generalize (w.alloc (.cells #[.string (bstr x.id), .int .i64 x.kind, .int .i64 x.at_, .string (bstr x.pre)] 42)) = wA at *
  refine (gwithin_any x.kind 1 4 wA).mono ?_
  rintro e wA ⟨rfl, rfl⟩
  cases q1 : withinB x.kind 1 4 with
  | false =>
    have HF : Hid (appF x = 4) := Lib.hid (HR.out.trans (if_pos q1))
    clear q1
    go_wp2_with fail
    go_ret
    exact ⟨by rw [HF.out]; rfl, HBA.out⟩
  | true =>
    have HR1 := Lib.hid (HR.out.trans (if_neg (by rw [q1]; decide)))
    clear q1 HR
    have x0 : wA.cell? ⟨w.heap.size, 0, none⟩ = some (.string (bstr x.id)) := HKXA.out.cell 0
    have x1 : wA.cell? ⟨w.heap.size, 1, none⟩ = some (.int .i64 x.kind) := HKXA.out.cell 1
    have x2 : wA.cell? ⟨w.heap.size, 2, none⟩ = some (.int .i64 x.at_) := HKXA.out.cell 2
    have x3 : wA.cell? ⟨w.heap.size, 3, none⟩ = some (.string (bstr x.pre)) := HKXA.out.cell 3
    go_wp2_with fail
    clear x0 x1 x2 x3
    refine (isName_any x.id wA hxi).mono ?_
    rintro e w3 ⟨rfl, hb⟩
    have HB3 := Lib.hid (HBA.out.trans (hb.mono HBA.out.size))
    have HKX3 := Lib.hid (HKXA.out.same (same_below hb) HKXA.out.lt)
    clear hb HBA HKXA
    cases q2 : isNm x.id with
    | false =>
      have HF : Hid (appF x = 5) := Lib.hid (HR1.out.trans (if_pos q2))
      clear q2
      go_wp2_with fail
      go_ret
      exact ⟨by rw [HF.out]; rfl, HB3.out⟩
    | true =>
      have HR2 := Lib.hid (HR1.out.trans (if_neg (by rw [q2]; decide)))
      clear q2 HR1
      have x0 : w3.cell? ⟨w.heap.size, 0, none⟩ = some (.string (bstr x.id)) := HKX3.out.cell 0
      have x1 : w3.cell? ⟨w.heap.size, 1, none⟩ = some (.int .i64 x.kind) := HKX3.out.cell 1
      have x2 : w3.cell? ⟨w.heap.size, 2, none⟩ = some (.int .i64 x.at_) := HKX3.out.cell 2
      have x3 : w3.cell? ⟨w.heap.size, 3, none⟩ = some (.string (bstr x.pre)) := HKX3.out.cell 3
      go_wp2_with fail
      clear x0 x1 x2 x3
      refine (moment_any x.at_ w3).mono ?_
      rintro e w3 ⟨rfl, rfl⟩
      cases q3 : withinB x.at_ 0 253402300799 with
      | false =>
        have HF : Hid (appF x = 1) := Lib.hid (HR2.out.trans (if_pos q3))
        clear q3
        go_wp2_with fail
        go_ret
        exact ⟨by rw [HF.out]; rfl, HB3.out⟩
      | true =>
        have HR3 := Lib.hid (HR2.out.trans (if_neg (by rw [q3]; decide)))
        clear q3 HR2
        have x0 : w3.cell? ⟨w.heap.size, 0, none⟩ = some (.string (bstr x.id)) := HKX3.out.cell 0
        have x1 : w3.cell? ⟨w.heap.size, 1, none⟩ = some (.int .i64 x.kind) := HKX3.out.cell 1
        have x2 : w3.cell? ⟨w.heap.size, 2, none⟩ = some (.int .i64 x.at_) := HKX3.out.cell 2
        have x3 : w3.cell? ⟨w.heap.size, 3, none⟩ = some (.string (bstr x.pre)) := HKX3.out.cell 3
        go_wp2_with fail
        clear x0 x1 x2 x3
        refine (isPre_any x.pre w3 hxp).mono ?_
        rintro e w3 ⟨rfl, rfl⟩
        cases q4 : isPre x.pre with
        | false =>
          have HF : Hid (appF x = 3) := Lib.hid (HR3.out.trans (if_pos (.inl q4)))
          clear q4
          go_wp2_with fail
          go_ret
          exact ⟨by rw [HF.out]; rfl, HB3.out⟩
        | true =>
          have HR4 : Hid (appF x = if (decide (x.kind = 1) != decide (x.pre ≠ [])) = true then 3 else 0) := Lib.hid (HR3.out.trans (by rw [q4]; simp))
          clear q4 HR3
          have x0 : w3.cell? ⟨w.heap.size, 0, none⟩ = some (.string (bstr x.id)) := HKX3.out.cell 0
          have x1 : w3.cell? ⟨w.heap.size, 1, none⟩ = some (.int .i64 x.kind) := HKX3.out.cell 1
          have x2 : w3.cell? ⟨w.heap.size, 2, none⟩ = some (.int .i64 x.at_) := HKX3.out.cell 2
          have x3 : w3.cell? ⟨w.heap.size, 3, none⟩ = some (.string (bstr x.pre)) := HKX3.out.cell 3
          generalize x.kind = kd at *
          by_cases hk : kd = 1
          · subst hk
            by_cases hp : x.pre = []
            · have he : (bstr x.pre).toList.isEmpty = true := by
                rw [hp, bstr_toList]; rfl
              have HF : Hid (appF x = 3) := Lib.hid (HR4.out.trans (by simp [hp]))
              clear hp HR4
              go_wp2_with fail
              go_ret
              exact ⟨by rw [HF.out]; rfl, HB3.out⟩
            · have he : (bstr x.pre).toList.isEmpty = false := by
                rw [bstr_toList]; cases hq : x.pre with | nil => exact absurd hq hp | cons _ _ => rfl
              have HF : Hid (appF x = 0) := Lib.hid (HR4.out.trans (by simp [hp]))
              clear hp HR4
              go_wp2_with fail
              go_ret
              exact ⟨by rw [HF.out]; rfl, HB3.out⟩
          · have hkb : (kd == (1 : Int)) = false := by simpa using hk
            by_cases hp : x.pre = []
            · have he : (bstr x.pre).toList.isEmpty = true := by
                rw [hp, bstr_toList]; rfl
              have HF : Hid (appF x = 0) := Lib.hid (HR4.out.trans (by simp [hp, hk]))
              clear hp HR4
              go_wp2_with fail
              go_ret
              exact ⟨by rw [HF.out]; rfl, HB3.out⟩
            · have he : (bstr x.pre).toList.isEmpty = false := by
                rw [bstr_toList]; cases hq : x.pre with | nil => exact absurd hq hp | cons _ _ => rfl
              have HF : Hid (appF x = 3) := Lib.hid (HR4.out.trans (by simp [hp, hk]))
              clear hp HR4
              go_wp2_with fail
              go_ret
              exact ⟨by rw [HF.out]; rfl, HB3.out⟩
def TakePost (r : Req) (x : App) (g : Nat) (w : World) (e : Ending) (w' : World) : Prop :=
  ∃ (f : Int) (r' : Req), e = .returned (.int .i64 f) ∧ w.grownBy w' (some g) ∧ Blk w' g 48 (reqCells r') ∧ ((f = 0 ∧ takeR r x = some r') ∨ (f = 11 ∧ takeR r x = none ∧ r' = r))
theorem set_grownR (w : World) (g i : Nat) (v : Value) : w.grownBy (w.setCell ⟨g, i, none⟩ v) (some g) :=
  ⟨rfl, rfl, rfl, by simp [World.setCell], fun k hk hne => Below.heap_setCell _ _ _ _ (fun e => hne (by rw [e]))⟩
set_option maxRecDepth 100000 in
set_option maxHeartbeats 4000000 in
theorem take_any (r : Req) (x : App) (g : Nat) (w : World) (hK : Blk w g 48 (reqCells r)) (hkd : 2 ≤ x.kind ∧ x.kind ≤ 4) :
    Calls Tryd.prog 31 #[.pointer (some ⟨g, 0, none⟩), .agg #[.string (bstr x.id), .int .i64 x.kind, .int .i64 x.at_, .string (bstr x.pre)]] w (TakePost r x g w) := by
  obtain ⟨xi, xk, xa, xp⟩ := x
  dsimp only at hkd ⊢
  rcases (show xk = 2 ∨ xk = 3 ∨ xk = 4 by omega) with hk | hk | hk
  · subst hk
    clear hkd
    have hgl := hK.lt
    have HG0 : Hid (w.grownBy (w.alloc (.cells #[.string (bstr xi), .int .i64 2, .int .i64 xa, .string (bstr xp)] 42)) (some g)) := Lib.hid (World.grownBy_alloc _ _ _)
    have HK0 := Lib.hid (hK.same (same_below ((Below.refl w.heap.size w).alloc (Nat.le_refl _) (.cells #[.string (bstr xi), .int .i64 2, .int .i64 xa, .string (bstr xp)] 42))) hgl)
    have HX0 := Lib.hid (Blk.new w 42 [.string (bstr xi), .int .i64 2, .int .i64 xa, .string (bstr xp)])
    have HKO := Lib.hid hK
    clear hK
    go_enter Tryd.func31, Tryd.ntmps31
    have r4 : (w.alloc (.cells #[.string (bstr xi), .int .i64 2, .int .i64 xa, .string (bstr xp)] 42)).cell? ⟨g, 4, none⟩ = some (.int .i64 r.state) := HK0.out.cell 4
    have r5 : (w.alloc (.cells #[.string (bstr xi), .int .i64 2, .int .i64 xa, .string (bstr xp)] 42)).cell? ⟨g, 5, none⟩ = some (.bool r.grant) := HK0.out.cell 5
    have r6 : (w.alloc (.cells #[.string (bstr xi), .int .i64 2, .int .i64 xa, .string (bstr xp)] 42)).cell? ⟨g, 6, none⟩ = some (.int .i64 r.end_) := HK0.out.cell 6
    have x0 : (w.alloc (.cells #[.string (bstr xi), .int .i64 2, .int .i64 xa, .string (bstr xp)] 42)).cell? ⟨w.heap.size, 0, none⟩ = some (.string (bstr xi)) := HX0.out.cell 0
    have x1 : (w.alloc (.cells #[.string (bstr xi), .int .i64 2, .int .i64 xa, .string (bstr xp)] 42)).cell? ⟨w.heap.size, 1, none⟩ = some (.int .i64 2) := HX0.out.cell 1
    have x2 : (w.alloc (.cells #[.string (bstr xi), .int .i64 2, .int .i64 xa, .string (bstr xp)] 42)).cell? ⟨w.heap.size, 2, none⟩ = some (.int .i64 xa) := HX0.out.cell 2
    have x3 : (w.alloc (.cells #[.string (bstr xi), .int .i64 2, .int .i64 xa, .string (bstr xp)] 42)).cell? ⟨w.heap.size, 3, none⟩ = some (.string (bstr xp)) := HX0.out.cell 3
    have z4 := HK0.out.frozen 4
    have z5 := HK0.out.frozen 5
    have z6 := HK0.out.frozen 6
    by_cases hs : r.state = 2
    · have HT : Hid (takeR r ⟨xi, 2, xa, xp⟩ = some { r with state := 4, grant := true }) := Lib.hid (by unfold takeR; simp [hs])
      have HKB := (HKO.out.set_ 4 (.int .i64 4)).same (same_below ((Below.refl (w.setCell ⟨g, 4, none⟩ (.int .i64 4)).heap.size _).alloc (Nat.le_refl _) (.cells #[.string (bstr xi), .int .i64 2, .int .i64 xa, .string (bstr xp)] 42))) (HKO.out.set_ 4 (.int .i64 4)).lt
      have HKS := Lib.hid (((HKO.out.set_ 4 (.int .i64 4)).set_ 5 (.bool true)).same (same_below ((Below.refl ((w.setCell ⟨g, 4, none⟩ (.int .i64 4)).setCell ⟨g, 5, none⟩ (.bool true)).heap.size _).alloc (Nat.le_refl _) (.cells #[.string (bstr xi), .int .i64 2, .int .i64 xa, .string (bstr xp)] 42))) ((HKO.out.set_ 4 (.int .i64 4)).set_ 5 (.bool true)).lt)
      have HGS := Lib.hid (((set_grownR w g 4 (.int .i64 4)).trans (set_grownR _ g 5 (.bool true))).trans (World.grownBy_alloc _ (.cells #[.string (bstr xi), .int .i64 2, .int .i64 xa, .string (bstr xp)] 42) _))
      have r5b : ((w.setCell ⟨g, 4, none⟩ (.int .i64 4)).alloc (.cells #[.string (bstr xi), .int .i64 2, .int .i64 xa, .string (bstr xp)] 42)).cell? ⟨g, 5, none⟩ = some (.bool r.grant) := HKB.cell 5
      have z5b := HKB.frozen 5
      clear HKB
      rw [hs] at r4
      clear hs
      go_wp2_with fail
      go_ret
      exact ⟨0, { r with state := 4, grant := true }, rfl, HGS.out, HKS.out, .inl ⟨rfl, HT.out⟩⟩
    · have HT : Hid (takeR r ⟨xi, 2, xa, xp⟩ = none) := Lib.hid (by unfold takeR; simp [hs])
      generalize r.state = st at r4 hs
      have hsb : (st == (2 : Int)) = false := by simpa using hs
      go_wp2_with fail
      go_ret
      exact ⟨11, r, rfl, HG0.out, HK0.out, .inr ⟨rfl, HT.out, rfl⟩⟩
  · subst hk
    clear hkd
    have hgl := hK.lt
    have HG0 : Hid (w.grownBy (w.alloc (.cells #[.string (bstr xi), .int .i64 3, .int .i64 xa, .string (bstr xp)] 42)) (some g)) := Lib.hid (World.grownBy_alloc _ _ _)
    have HK0 := Lib.hid (hK.same (same_below ((Below.refl w.heap.size w).alloc (Nat.le_refl _) (.cells #[.string (bstr xi), .int .i64 3, .int .i64 xa, .string (bstr xp)] 42))) hgl)
    have HX0 := Lib.hid (Blk.new w 42 [.string (bstr xi), .int .i64 3, .int .i64 xa, .string (bstr xp)])
    have HKO := Lib.hid hK
    clear hK
    go_enter Tryd.func31, Tryd.ntmps31
    have r4 : (w.alloc (.cells #[.string (bstr xi), .int .i64 3, .int .i64 xa, .string (bstr xp)] 42)).cell? ⟨g, 4, none⟩ = some (.int .i64 r.state) := HK0.out.cell 4
    have r5 : (w.alloc (.cells #[.string (bstr xi), .int .i64 3, .int .i64 xa, .string (bstr xp)] 42)).cell? ⟨g, 5, none⟩ = some (.bool r.grant) := HK0.out.cell 5
    have r6 : (w.alloc (.cells #[.string (bstr xi), .int .i64 3, .int .i64 xa, .string (bstr xp)] 42)).cell? ⟨g, 6, none⟩ = some (.int .i64 r.end_) := HK0.out.cell 6
    have x0 : (w.alloc (.cells #[.string (bstr xi), .int .i64 3, .int .i64 xa, .string (bstr xp)] 42)).cell? ⟨w.heap.size, 0, none⟩ = some (.string (bstr xi)) := HX0.out.cell 0
    have x1 : (w.alloc (.cells #[.string (bstr xi), .int .i64 3, .int .i64 xa, .string (bstr xp)] 42)).cell? ⟨w.heap.size, 1, none⟩ = some (.int .i64 3) := HX0.out.cell 1
    have x2 : (w.alloc (.cells #[.string (bstr xi), .int .i64 3, .int .i64 xa, .string (bstr xp)] 42)).cell? ⟨w.heap.size, 2, none⟩ = some (.int .i64 xa) := HX0.out.cell 2
    have x3 : (w.alloc (.cells #[.string (bstr xi), .int .i64 3, .int .i64 xa, .string (bstr xp)] 42)).cell? ⟨w.heap.size, 3, none⟩ = some (.string (bstr xp)) := HX0.out.cell 3
    have z4 := HK0.out.frozen 4
    have z5 := HK0.out.frozen 5
    have z6 := HK0.out.frozen 6
    by_cases hs : r.state = 2
    · have HT : Hid (takeR r ⟨xi, 3, xa, xp⟩ = some { r with state := 5, end_ := xa }) := Lib.hid (by unfold takeR; simp [hs])
      rw [hs] at r4
      clear hs
      go_wp2_with fail
      generalize (w.alloc (.cells #[.string (bstr xi), .int .i64 3, .int .i64 xa, .string (bstr xp)] 42)) = wA at *
      clear r4 r5 r6 x0 x1 x2 x3 z4 z5 z6
      refine wp_region_held_drew (S := fun w' => w'.cell? ⟨w.heap.size, 2, none⟩ = some (.int .i64 xa) ∧ (∃ cs, cs.length = 7 ∧ Blk w' g 48 cs)) (by kernel_rfl) ⟨HX0.out.cell 2, _, rfl, HK0.out⟩ (fun hHeld => ?_)
      have HGD : Hid (wA.grownBy wA.drew (some g)) := Lib.hid ⟨rfl, rfl, rfl, Nat.le_refl _, fun _ _ _ => rfl⟩
      have HKD : Hid (Blk wA.drew g 48 (reqCells r)) := HK0
      have HXD : Hid (Blk wA.drew w.heap.size 42 [.string (bstr xi), .int .i64 3, .int .i64 xa, .string (bstr xp)]) := HX0
      generalize wA.drew = wq at *
      refine wpAnyH_take (i := 0) (v := ?_) rfl (by kernel_rfl) (by kernel_rfl) (by kernel_rfl) (fun _ _ _ h => h) (Or.inl ⟨by rfl, ?_⟩) (by assumption) ?_
      rotate_left
      · (intro w hSw; (try dsimp only at hSw); go_simp; try with_reducible rfl)
      try simp only [List.getElem_toArray, List.getElem_cons_succ, List.getElem_cons_zero, Act.put, List.setIfInBounds_toArray, List.set_cons_zero, List.set_cons_succ]
      refine wpAnyH_take (i := 1) (v := ?_) rfl (by kernel_rfl) (by kernel_rfl) (by kernel_rfl) (fun _ _ _ h => h) (Or.inl ⟨by rfl, ?_⟩) (by assumption) ?_
      rotate_left
      · (intro w hSw; (try dsimp only at hSw); go_simp; try with_reducible rfl)
      try simp only [List.getElem_toArray, List.getElem_cons_succ, List.getElem_cons_zero, Act.put, List.setIfInBounds_toArray, List.set_cons_zero, List.set_cons_succ]
      refine wpAnyH_take (i := 2) (v := ?_) rfl (by kernel_rfl) (by kernel_rfl) (by kernel_rfl) (fun _ _ _ h => h) (Or.inl ⟨by rfl, ?_⟩) (by assumption) ?_
      rotate_left
      · (intro w hSw; (try dsimp only at hSw); go_simp; try with_reducible rfl)
      try simp only [List.getElem_toArray, List.getElem_cons_succ, List.getElem_cons_zero, Act.put, List.setIfInBounds_toArray, List.set_cons_zero, List.set_cons_succ]
      refine wpAnyH_take (i := 3) (v := ?_) rfl (by kernel_rfl) (by kernel_rfl) (by kernel_rfl) (fun _ _ _ h => h) (Or.inl ⟨by rfl, ?_⟩) (by assumption) ?_
      rotate_left
      · (intro w hSw; (try dsimp only at hSw); go_simp; try with_reducible rfl)
      try simp only [List.getElem_toArray, List.getElem_cons_succ, List.getElem_cons_zero, Act.put, List.setIfInBounds_toArray, List.set_cons_zero, List.set_cons_succ]
      refine wpAnyH_take (i := 4) (v := ?_) rfl (by kernel_rfl) (by kernel_rfl) (by kernel_rfl) (fun _ _ _ h => h) (Or.inl ⟨by rfl, ?_⟩) (by assumption) ?_
      rotate_left
      · (intro w hSw; (try dsimp only at hSw); go_simp; try with_reducible rfl)
      try simp only [List.getElem_toArray, List.getElem_cons_succ, List.getElem_cons_zero, Act.put, List.setIfInBounds_toArray, List.set_cons_zero, List.set_cons_succ]
      refine wpAnyH_take (i := 5) (v := ?_) rfl (by kernel_rfl) (by kernel_rfl) (by kernel_rfl) (fun _ _ _ h => h) (Or.inl ⟨by rfl, ?_⟩) (by assumption) ?_
      rotate_left
      · (intro w hSw; (try dsimp only at hSw); go_simp; try with_reducible rfl)
      try simp only [List.getElem_toArray, List.getElem_cons_succ, List.getElem_cons_zero, Act.put, List.setIfInBounds_toArray, List.set_cons_zero, List.set_cons_succ]
      have hgx : g ≠ w.heap.size := by omega
      have hk := HKD.out
      have k4 : wq.cell? ⟨g, 4, none⟩ = some (.int .i64 r.state) := hk.cell 4
      have y4 := hk.frozen 4
      refine wpAnyH_ready (rs := [6]) (by kernel_rfl) (by simp) ?_
      refine AllReadyH.cons rfl (fun K hK => ?_) AllReadyH.nil
      rw [if_pos (by rfl)]
      simp only [List.getElem_toArray, List.getElem_cons_succ, List.getElem_cons_zero]
      go_simp
      have HKS := Lib.hid (hk.set_ 4 (.int .i64 5))
      have HGS := Lib.hid (set_grownR wq g 4 (.int .i64 5))
      have HXS := Lib.hid (HXD.out.same (grown_same HGS.out) ⟨HXD.out.lt, fun e => hgx (Option.some.inj e).symm⟩)
      refine hK.out _ _ ⟨HXS.out.cell 2, _, rfl, HKS.out⟩ (fun hHeld => ?_)
      clear hK K k4 y4 hk
      try simp only [List.getElem_toArray, List.getElem_cons_succ, List.getElem_cons_zero, Act.put, List.setIfInBounds_toArray, List.set_cons_zero, List.set_cons_succ]
      obtain ⟨wr, hwr⟩ : ∃ wr, wr = wq.setCell ⟨g, 4, none⟩ (.int .i64 5) := ⟨_, rfl⟩
      rw [← hwr] at hHeld HKS HGS HXS ⊢
      clear hwr
      refine wpAnyH_take (i := 7) (v := ?_) rfl (by kernel_rfl) (by kernel_rfl) (by kernel_rfl) (fun _ _ _ h => h) (Or.inl ⟨by rfl, ?_⟩) (by assumption) ?_
      rotate_left
      · (intro w hSw; (try dsimp only at hSw); go_simp; try with_reducible rfl)
      try simp only [List.getElem_toArray, List.getElem_cons_succ, List.getElem_cons_zero, Act.put, List.setIfInBounds_toArray, List.set_cons_zero, List.set_cons_succ]
      refine wpAnyH_take (i := 8) (v := ?_) rfl (by kernel_rfl) (by kernel_rfl) (by kernel_rfl) (fun _ _ _ h => h) (Or.inl ⟨by rfl, ?_⟩) (by assumption) ?_
      rotate_left
      · (intro w hSw; (try dsimp only at hSw); go_simp; try with_reducible rfl)
      try simp only [List.getElem_toArray, List.getElem_cons_succ, List.getElem_cons_zero, Act.put, List.setIfInBounds_toArray, List.set_cons_zero, List.set_cons_succ]
      have k6 : wr.cell? ⟨g, 6, none⟩ = some (.int .i64 r.end_) := HKS.out.cell 6
      have y6 := HKS.out.frozen 6
      refine wpAnyH_ready (rs := [9]) (by kernel_rfl) (by simp) ?_
      refine AllReadyH.cons rfl (fun K hK => ?_) AllReadyH.nil
      rw [if_pos (by rfl)]
      simp only [List.getElem_toArray, List.getElem_cons_succ, List.getElem_cons_zero]
      go_simp
      have HKT := Lib.hid (HKS.out.set_ 6 (.int .i64 xa))
      have HGS2 := Lib.hid (HGS.out.trans (set_grownR wr g 6 (.int .i64 xa)))
      have HXT := Lib.hid (HXS.out.same (grown_same (set_grownR wr g 6 (.int .i64 xa))) ⟨HXS.out.lt, fun e => hgx (Option.some.inj e).symm⟩)
      refine hK.out _ _ ⟨HXT.out.cell 2, _, rfl, HKT.out⟩ (fun hHeld => ?_)
      clear hK K k6 y6
      try simp only [List.getElem_toArray, List.getElem_cons_succ, List.getElem_cons_zero, Act.put, List.setIfInBounds_toArray, List.set_cons_zero, List.set_cons_succ]
      refine wpAnyH_done (by kernel_rfl) ?_ _
      clear hHeld
      have HGZ := Lib.hid ((HG0.out.trans HGD.out).trans HGS2.out)
      go_wp2_with fail
      go_ret
      exact ⟨0, { r with state := 5, end_ := xa }, rfl, HGZ.out, HKT.out, .inl ⟨rfl, HT.out⟩⟩
    · have HT : Hid (takeR r ⟨xi, 3, xa, xp⟩ = none) := Lib.hid (by unfold takeR; simp [hs])
      generalize r.state = st at r4 hs
      have hsb : (st == (2 : Int)) = false := by simpa using hs
      go_wp2_with fail
      go_ret
      exact ⟨11, r, rfl, HG0.out, HK0.out, .inr ⟨rfl, HT.out, rfl⟩⟩
  · subst hk
    clear hkd
    have hgl := hK.lt
    have HG0 : Hid (w.grownBy (w.alloc (.cells #[.string (bstr xi), .int .i64 4, .int .i64 xa, .string (bstr xp)] 42)) (some g)) := Lib.hid (World.grownBy_alloc _ _ _)
    have HK0 := Lib.hid (hK.same (same_below ((Below.refl w.heap.size w).alloc (Nat.le_refl _) (.cells #[.string (bstr xi), .int .i64 4, .int .i64 xa, .string (bstr xp)] 42))) hgl)
    have HX0 := Lib.hid (Blk.new w 42 [.string (bstr xi), .int .i64 4, .int .i64 xa, .string (bstr xp)])
    have HKO := Lib.hid hK
    clear hK
    go_enter Tryd.func31, Tryd.ntmps31
    have r4 : (w.alloc (.cells #[.string (bstr xi), .int .i64 4, .int .i64 xa, .string (bstr xp)] 42)).cell? ⟨g, 4, none⟩ = some (.int .i64 r.state) := HK0.out.cell 4
    have r5 : (w.alloc (.cells #[.string (bstr xi), .int .i64 4, .int .i64 xa, .string (bstr xp)] 42)).cell? ⟨g, 5, none⟩ = some (.bool r.grant) := HK0.out.cell 5
    have r6 : (w.alloc (.cells #[.string (bstr xi), .int .i64 4, .int .i64 xa, .string (bstr xp)] 42)).cell? ⟨g, 6, none⟩ = some (.int .i64 r.end_) := HK0.out.cell 6
    have x0 : (w.alloc (.cells #[.string (bstr xi), .int .i64 4, .int .i64 xa, .string (bstr xp)] 42)).cell? ⟨w.heap.size, 0, none⟩ = some (.string (bstr xi)) := HX0.out.cell 0
    have x1 : (w.alloc (.cells #[.string (bstr xi), .int .i64 4, .int .i64 xa, .string (bstr xp)] 42)).cell? ⟨w.heap.size, 1, none⟩ = some (.int .i64 4) := HX0.out.cell 1
    have x2 : (w.alloc (.cells #[.string (bstr xi), .int .i64 4, .int .i64 xa, .string (bstr xp)] 42)).cell? ⟨w.heap.size, 2, none⟩ = some (.int .i64 xa) := HX0.out.cell 2
    have x3 : (w.alloc (.cells #[.string (bstr xi), .int .i64 4, .int .i64 xa, .string (bstr xp)] 42)).cell? ⟨w.heap.size, 3, none⟩ = some (.string (bstr xp)) := HX0.out.cell 3
    have z4 := HK0.out.frozen 4
    have z5 := HK0.out.frozen 5
    have z6 := HK0.out.frozen 6
    by_cases hs : r.state = 2
    · have HT : Hid (takeR r ⟨xi, 4, xa, xp⟩ = some { r with state := 6, end_ := xa }) := Lib.hid (by unfold takeR; simp [hs])
      rw [hs] at r4
      clear hs
      go_wp2_with fail
      generalize (w.alloc (.cells #[.string (bstr xi), .int .i64 4, .int .i64 xa, .string (bstr xp)] 42)) = wA at *
      clear r4 r5 r6 x0 x1 x2 x3 z4 z5 z6
      refine wp_region_held_drew (S := fun w' => w'.cell? ⟨w.heap.size, 2, none⟩ = some (.int .i64 xa) ∧ (∃ cs, cs.length = 7 ∧ Blk w' g 48 cs)) (by kernel_rfl) ⟨HX0.out.cell 2, _, rfl, HK0.out⟩ (fun hHeld => ?_)
      have HGD : Hid (wA.grownBy wA.drew (some g)) := Lib.hid ⟨rfl, rfl, rfl, Nat.le_refl _, fun _ _ _ => rfl⟩
      have HKD : Hid (Blk wA.drew g 48 (reqCells r)) := HK0
      have HXD : Hid (Blk wA.drew w.heap.size 42 [.string (bstr xi), .int .i64 4, .int .i64 xa, .string (bstr xp)]) := HX0
      generalize wA.drew = wq at *
      refine wpAnyH_take (i := 0) (v := ?_) rfl (by kernel_rfl) (by kernel_rfl) (by kernel_rfl) (fun _ _ _ h => h) (Or.inl ⟨by rfl, ?_⟩) (by assumption) ?_
      rotate_left
      · (intro w hSw; (try dsimp only at hSw); go_simp; try with_reducible rfl)
      try simp only [List.getElem_toArray, List.getElem_cons_succ, List.getElem_cons_zero, Act.put, List.setIfInBounds_toArray, List.set_cons_zero, List.set_cons_succ]
      refine wpAnyH_take (i := 1) (v := ?_) rfl (by kernel_rfl) (by kernel_rfl) (by kernel_rfl) (fun _ _ _ h => h) (Or.inl ⟨by rfl, ?_⟩) (by assumption) ?_
      rotate_left
      · (intro w hSw; (try dsimp only at hSw); go_simp; try with_reducible rfl)
      try simp only [List.getElem_toArray, List.getElem_cons_succ, List.getElem_cons_zero, Act.put, List.setIfInBounds_toArray, List.set_cons_zero, List.set_cons_succ]
      refine wpAnyH_take (i := 2) (v := ?_) rfl (by kernel_rfl) (by kernel_rfl) (by kernel_rfl) (fun _ _ _ h => h) (Or.inl ⟨by rfl, ?_⟩) (by assumption) ?_
      rotate_left
      · (intro w hSw; (try dsimp only at hSw); go_simp; try with_reducible rfl)
      try simp only [List.getElem_toArray, List.getElem_cons_succ, List.getElem_cons_zero, Act.put, List.setIfInBounds_toArray, List.set_cons_zero, List.set_cons_succ]
      refine wpAnyH_take (i := 3) (v := ?_) rfl (by kernel_rfl) (by kernel_rfl) (by kernel_rfl) (fun _ _ _ h => h) (Or.inl ⟨by rfl, ?_⟩) (by assumption) ?_
      rotate_left
      · (intro w hSw; (try dsimp only at hSw); go_simp; try with_reducible rfl)
      try simp only [List.getElem_toArray, List.getElem_cons_succ, List.getElem_cons_zero, Act.put, List.setIfInBounds_toArray, List.set_cons_zero, List.set_cons_succ]
      refine wpAnyH_take (i := 4) (v := ?_) rfl (by kernel_rfl) (by kernel_rfl) (by kernel_rfl) (fun _ _ _ h => h) (Or.inl ⟨by rfl, ?_⟩) (by assumption) ?_
      rotate_left
      · (intro w hSw; (try dsimp only at hSw); go_simp; try with_reducible rfl)
      try simp only [List.getElem_toArray, List.getElem_cons_succ, List.getElem_cons_zero, Act.put, List.setIfInBounds_toArray, List.set_cons_zero, List.set_cons_succ]
      refine wpAnyH_take (i := 5) (v := ?_) rfl (by kernel_rfl) (by kernel_rfl) (by kernel_rfl) (fun _ _ _ h => h) (Or.inl ⟨by rfl, ?_⟩) (by assumption) ?_
      rotate_left
      · (intro w hSw; (try dsimp only at hSw); go_simp; try with_reducible rfl)
      try simp only [List.getElem_toArray, List.getElem_cons_succ, List.getElem_cons_zero, Act.put, List.setIfInBounds_toArray, List.set_cons_zero, List.set_cons_succ]
      have hgx : g ≠ w.heap.size := by omega
      have hk := HKD.out
      have k4 : wq.cell? ⟨g, 4, none⟩ = some (.int .i64 r.state) := hk.cell 4
      have y4 := hk.frozen 4
      refine wpAnyH_ready (rs := [6]) (by kernel_rfl) (by simp) ?_
      refine AllReadyH.cons rfl (fun K hK => ?_) AllReadyH.nil
      rw [if_pos (by rfl)]
      simp only [List.getElem_toArray, List.getElem_cons_succ, List.getElem_cons_zero]
      go_simp
      have HKS := Lib.hid (hk.set_ 4 (.int .i64 6))
      have HGS := Lib.hid (set_grownR wq g 4 (.int .i64 6))
      have HXS := Lib.hid (HXD.out.same (grown_same HGS.out) ⟨HXD.out.lt, fun e => hgx (Option.some.inj e).symm⟩)
      refine hK.out _ _ ⟨HXS.out.cell 2, _, rfl, HKS.out⟩ (fun hHeld => ?_)
      clear hK K k4 y4 hk
      try simp only [List.getElem_toArray, List.getElem_cons_succ, List.getElem_cons_zero, Act.put, List.setIfInBounds_toArray, List.set_cons_zero, List.set_cons_succ]
      obtain ⟨wr, hwr⟩ : ∃ wr, wr = wq.setCell ⟨g, 4, none⟩ (.int .i64 6) := ⟨_, rfl⟩
      rw [← hwr] at hHeld HKS HGS HXS ⊢
      clear hwr
      refine wpAnyH_take (i := 7) (v := ?_) rfl (by kernel_rfl) (by kernel_rfl) (by kernel_rfl) (fun _ _ _ h => h) (Or.inl ⟨by rfl, ?_⟩) (by assumption) ?_
      rotate_left
      · (intro w hSw; (try dsimp only at hSw); go_simp; try with_reducible rfl)
      try simp only [List.getElem_toArray, List.getElem_cons_succ, List.getElem_cons_zero, Act.put, List.setIfInBounds_toArray, List.set_cons_zero, List.set_cons_succ]
      refine wpAnyH_take (i := 8) (v := ?_) rfl (by kernel_rfl) (by kernel_rfl) (by kernel_rfl) (fun _ _ _ h => h) (Or.inl ⟨by rfl, ?_⟩) (by assumption) ?_
      rotate_left
      · (intro w hSw; (try dsimp only at hSw); go_simp; try with_reducible rfl)
      try simp only [List.getElem_toArray, List.getElem_cons_succ, List.getElem_cons_zero, Act.put, List.setIfInBounds_toArray, List.set_cons_zero, List.set_cons_succ]
      have k6 : wr.cell? ⟨g, 6, none⟩ = some (.int .i64 r.end_) := HKS.out.cell 6
      have y6 := HKS.out.frozen 6
      refine wpAnyH_ready (rs := [9]) (by kernel_rfl) (by simp) ?_
      refine AllReadyH.cons rfl (fun K hK => ?_) AllReadyH.nil
      rw [if_pos (by rfl)]
      simp only [List.getElem_toArray, List.getElem_cons_succ, List.getElem_cons_zero]
      go_simp
      have HKT := Lib.hid (HKS.out.set_ 6 (.int .i64 xa))
      have HGS2 := Lib.hid (HGS.out.trans (set_grownR wr g 6 (.int .i64 xa)))
      have HXT := Lib.hid (HXS.out.same (grown_same (set_grownR wr g 6 (.int .i64 xa))) ⟨HXS.out.lt, fun e => hgx (Option.some.inj e).symm⟩)
      refine hK.out _ _ ⟨HXT.out.cell 2, _, rfl, HKT.out⟩ (fun hHeld => ?_)
      clear hK K k6 y6
      try simp only [List.getElem_toArray, List.getElem_cons_succ, List.getElem_cons_zero, Act.put, List.setIfInBounds_toArray, List.set_cons_zero, List.set_cons_succ]
      refine wpAnyH_done (by kernel_rfl) ?_ _
      clear hHeld
      have HGZ := Lib.hid ((HG0.out.trans HGD.out).trans HGS2.out)
      go_wp2_with fail
      go_ret
      exact ⟨0, { r with state := 6, end_ := xa }, rfl, HGZ.out, HKT.out, .inl ⟨rfl, HT.out⟩⟩
    by_cases hs4 : r.state = 4
    · have HT : Hid (takeR r ⟨xi, 4, xa, xp⟩ = some { r with state := 6, end_ := xa }) := Lib.hid (by unfold takeR; simp [hs4])
      rw [hs4] at r4
      clear hs hs4
      go_wp2_with fail
      generalize (w.alloc (.cells #[.string (bstr xi), .int .i64 4, .int .i64 xa, .string (bstr xp)] 42)) = wA at *
      clear r4 r5 r6 x0 x1 x2 x3 z4 z5 z6
      refine wp_region_held_drew (S := fun w' => w'.cell? ⟨w.heap.size, 2, none⟩ = some (.int .i64 xa) ∧ (∃ cs, cs.length = 7 ∧ Blk w' g 48 cs)) (by kernel_rfl) ⟨HX0.out.cell 2, _, rfl, HK0.out⟩ (fun hHeld => ?_)
      have HGD : Hid (wA.grownBy wA.drew (some g)) := Lib.hid ⟨rfl, rfl, rfl, Nat.le_refl _, fun _ _ _ => rfl⟩
      have HKD : Hid (Blk wA.drew g 48 (reqCells r)) := HK0
      have HXD : Hid (Blk wA.drew w.heap.size 42 [.string (bstr xi), .int .i64 4, .int .i64 xa, .string (bstr xp)]) := HX0
      generalize wA.drew = wq at *
      refine wpAnyH_take (i := 0) (v := ?_) rfl (by kernel_rfl) (by kernel_rfl) (by kernel_rfl) (fun _ _ _ h => h) (Or.inl ⟨by rfl, ?_⟩) (by assumption) ?_
      rotate_left
      · (intro w hSw; (try dsimp only at hSw); go_simp; try with_reducible rfl)
      try simp only [List.getElem_toArray, List.getElem_cons_succ, List.getElem_cons_zero, Act.put, List.setIfInBounds_toArray, List.set_cons_zero, List.set_cons_succ]
      refine wpAnyH_take (i := 1) (v := ?_) rfl (by kernel_rfl) (by kernel_rfl) (by kernel_rfl) (fun _ _ _ h => h) (Or.inl ⟨by rfl, ?_⟩) (by assumption) ?_
      rotate_left
      · (intro w hSw; (try dsimp only at hSw); go_simp; try with_reducible rfl)
      try simp only [List.getElem_toArray, List.getElem_cons_succ, List.getElem_cons_zero, Act.put, List.setIfInBounds_toArray, List.set_cons_zero, List.set_cons_succ]
      refine wpAnyH_take (i := 2) (v := ?_) rfl (by kernel_rfl) (by kernel_rfl) (by kernel_rfl) (fun _ _ _ h => h) (Or.inl ⟨by rfl, ?_⟩) (by assumption) ?_
      rotate_left
      · (intro w hSw; (try dsimp only at hSw); go_simp; try with_reducible rfl)
      try simp only [List.getElem_toArray, List.getElem_cons_succ, List.getElem_cons_zero, Act.put, List.setIfInBounds_toArray, List.set_cons_zero, List.set_cons_succ]
      refine wpAnyH_take (i := 3) (v := ?_) rfl (by kernel_rfl) (by kernel_rfl) (by kernel_rfl) (fun _ _ _ h => h) (Or.inl ⟨by rfl, ?_⟩) (by assumption) ?_
      rotate_left
      · (intro w hSw; (try dsimp only at hSw); go_simp; try with_reducible rfl)
      try simp only [List.getElem_toArray, List.getElem_cons_succ, List.getElem_cons_zero, Act.put, List.setIfInBounds_toArray, List.set_cons_zero, List.set_cons_succ]
      refine wpAnyH_take (i := 4) (v := ?_) rfl (by kernel_rfl) (by kernel_rfl) (by kernel_rfl) (fun _ _ _ h => h) (Or.inl ⟨by rfl, ?_⟩) (by assumption) ?_
      rotate_left
      · (intro w hSw; (try dsimp only at hSw); go_simp; try with_reducible rfl)
      try simp only [List.getElem_toArray, List.getElem_cons_succ, List.getElem_cons_zero, Act.put, List.setIfInBounds_toArray, List.set_cons_zero, List.set_cons_succ]
      refine wpAnyH_take (i := 5) (v := ?_) rfl (by kernel_rfl) (by kernel_rfl) (by kernel_rfl) (fun _ _ _ h => h) (Or.inl ⟨by rfl, ?_⟩) (by assumption) ?_
      rotate_left
      · (intro w hSw; (try dsimp only at hSw); go_simp; try with_reducible rfl)
      try simp only [List.getElem_toArray, List.getElem_cons_succ, List.getElem_cons_zero, Act.put, List.setIfInBounds_toArray, List.set_cons_zero, List.set_cons_succ]
      have hgx : g ≠ w.heap.size := by omega
      have hk := HKD.out
      have k4 : wq.cell? ⟨g, 4, none⟩ = some (.int .i64 r.state) := hk.cell 4
      have y4 := hk.frozen 4
      refine wpAnyH_ready (rs := [6]) (by kernel_rfl) (by simp) ?_
      refine AllReadyH.cons rfl (fun K hK => ?_) AllReadyH.nil
      rw [if_pos (by rfl)]
      simp only [List.getElem_toArray, List.getElem_cons_succ, List.getElem_cons_zero]
      go_simp
      have HKS := Lib.hid (hk.set_ 4 (.int .i64 6))
      have HGS := Lib.hid (set_grownR wq g 4 (.int .i64 6))
      have HXS := Lib.hid (HXD.out.same (grown_same HGS.out) ⟨HXD.out.lt, fun e => hgx (Option.some.inj e).symm⟩)
      refine hK.out _ _ ⟨HXS.out.cell 2, _, rfl, HKS.out⟩ (fun hHeld => ?_)
      clear hK K k4 y4 hk
      try simp only [List.getElem_toArray, List.getElem_cons_succ, List.getElem_cons_zero, Act.put, List.setIfInBounds_toArray, List.set_cons_zero, List.set_cons_succ]
      obtain ⟨wr, hwr⟩ : ∃ wr, wr = wq.setCell ⟨g, 4, none⟩ (.int .i64 6) := ⟨_, rfl⟩
      rw [← hwr] at hHeld HKS HGS HXS ⊢
      clear hwr
      refine wpAnyH_take (i := 7) (v := ?_) rfl (by kernel_rfl) (by kernel_rfl) (by kernel_rfl) (fun _ _ _ h => h) (Or.inl ⟨by rfl, ?_⟩) (by assumption) ?_
      rotate_left
      · (intro w hSw; (try dsimp only at hSw); go_simp; try with_reducible rfl)
      try simp only [List.getElem_toArray, List.getElem_cons_succ, List.getElem_cons_zero, Act.put, List.setIfInBounds_toArray, List.set_cons_zero, List.set_cons_succ]
      refine wpAnyH_take (i := 8) (v := ?_) rfl (by kernel_rfl) (by kernel_rfl) (by kernel_rfl) (fun _ _ _ h => h) (Or.inl ⟨by rfl, ?_⟩) (by assumption) ?_
      rotate_left
      · (intro w hSw; (try dsimp only at hSw); go_simp; try with_reducible rfl)
      try simp only [List.getElem_toArray, List.getElem_cons_succ, List.getElem_cons_zero, Act.put, List.setIfInBounds_toArray, List.set_cons_zero, List.set_cons_succ]
      have k6 : wr.cell? ⟨g, 6, none⟩ = some (.int .i64 r.end_) := HKS.out.cell 6
      have y6 := HKS.out.frozen 6
      refine wpAnyH_ready (rs := [9]) (by kernel_rfl) (by simp) ?_
      refine AllReadyH.cons rfl (fun K hK => ?_) AllReadyH.nil
      rw [if_pos (by rfl)]
      simp only [List.getElem_toArray, List.getElem_cons_succ, List.getElem_cons_zero]
      go_simp
      have HKT := Lib.hid (HKS.out.set_ 6 (.int .i64 xa))
      have HGS2 := Lib.hid (HGS.out.trans (set_grownR wr g 6 (.int .i64 xa)))
      have HXT := Lib.hid (HXS.out.same (grown_same (set_grownR wr g 6 (.int .i64 xa))) ⟨HXS.out.lt, fun e => hgx (Option.some.inj e).symm⟩)
      refine hK.out _ _ ⟨HXT.out.cell 2, _, rfl, HKT.out⟩ (fun hHeld => ?_)
      clear hK K k6 y6
      try simp only [List.getElem_toArray, List.getElem_cons_succ, List.getElem_cons_zero, Act.put, List.setIfInBounds_toArray, List.set_cons_zero, List.set_cons_succ]
      refine wpAnyH_done (by kernel_rfl) ?_ _
      clear hHeld
      have HGZ := Lib.hid ((HG0.out.trans HGD.out).trans HGS2.out)
      go_wp2_with fail
      go_ret
      exact ⟨0, { r with state := 6, end_ := xa }, rfl, HGZ.out, HKT.out, .inl ⟨rfl, HT.out⟩⟩
    have HT : Hid (takeR r ⟨xi, 4, xa, xp⟩ = none) := Lib.hid (by unfold takeR; simp [hs, hs4])
    generalize r.state = st at r4 hs hs4
    have hsb : (st == (2 : Int)) = false := by simpa using hs
    have hsc : (st != (4 : Int)) = true := by simpa using hs4
    go_wp2_with fail
    go_ret
    exact ⟨11, r, rfl, HG0.out, HK0.out, .inr ⟨rfl, HT.out, rfl⟩⟩
end Go.Proofs.YtgbpnghgcffkbaaDoor
