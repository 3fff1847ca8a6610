/-
  'CheckAppeals' and 'StateOf' of package rights.
  How a request stands: plain facts.
  'StateOf' of package rights.
  The takedowns that requests make: plain facts.
  'endOf' of the reference of chapter 10.
-/
import Derived.Test.YtgbpnghgcffkbaaDoorFollow
namespace Go.Proofs.YtgbpnghgcffkbaaDoor
open Go.RowKit
set_option linter.unusedVariables false
set_option linter.unusedSimpArgs false

theorem appVal_inj (x : App) : (Value.agg #[.string (bstr x.id), .int .i64 x.kind, .int .i64 x.at_, .string (bstr x.pre)]) = .agg (appCells x).toArray := rfl
set_option maxRecDepth 100000 in
set_option maxHeartbeats 1000000 in
theorem chkAppeals_any (v : Value) (l : List App) (w : World) (h0 : (Rp.sl appRp).ok w (· < w.heap.size) [v] l) :
    Calls Tryd.prog 10 #[v] w fun e w' => e = .returned (.int .i64 (appsFault l)) ∧ Below w.heap.size w w' := by
  go_enter Tryd.func10, Tryd.ntmps10
  go_wp2_with fail
  refine (follow_any v l (-1) w h0).mono ?_
  rintro e w1 ⟨vr, hs, rfl, hR, hb⟩
  have HB := Lib.hid hb
  clear hb hR h0
  go_wp2_with fail
  go_ret
  exact ⟨rfl, HB.out⟩
def hasId (l : List App) (s : List UInt8) : Bool := l.any fun x => decide (x.id = s)
set_option maxRecDepth 100000 in
set_option maxHeartbeats 1000000 in
theorem hasFn_any (x : App) (s : List UInt8) (bx : Nat) (w : World) (hb : w.cell? ⟨bx, 0, none⟩ = some (.string (bstr s))) :
    Calls Tryd.prog 17 #[.agg #[.string (bstr x.id), .int .i64 x.kind, .int .i64 x.at_, .string (bstr x.pre)], .pointer (some ⟨bx, 0, none⟩)] w fun e w' => e = .returned (.bool (decide (x.id = s))) ∧ Below w.heap.size w w' := by
  have hbx := World.block_lt_of_cell? w _ hb
  have hal := (Below.refl w.heap.size w).alloc (Nat.le_refl _) (.cells #[.string (bstr x.id), .int .i64 x.kind, .int .i64 x.at_, .string (bstr x.pre)] 42)
  have HB := Lib.hid hal
  have HK := Lib.hid (Blk.new w 42 [.string (bstr x.id), .int .i64 x.kind, .int .i64 x.at_, .string (bstr x.pre)])
  have x0 : (w.alloc (.cells #[.string (bstr x.id), .int .i64 x.kind, .int .i64 x.at_, .string (bstr x.pre)] 42)).cell? ⟨w.heap.size, 0, none⟩ = some (.string (bstr x.id)) := HK.out.cell 0
  have xb : (w.alloc (.cells #[.string (bstr x.id), .int .i64 x.kind, .int .i64 x.at_, .string (bstr x.pre)] 42)).cell? ⟨bx, 0, none⟩ = some (.string (bstr s)) := (hal.cell (p := ⟨bx, 0, none⟩) hbx).trans hb
  clear hal
  have HD : Hid (((bstr x.id).toList == (bstr s).toList) = decide (x.id = s)) := Lib.hid (by
    by_cases h : x.id = s
    · rw [decide_eq_true h, h]; simp
    · rw [decide_eq_false h]; exact str_bne (fun e => h (bstr_inj e)))
  go_enter Tryd.func17, Tryd.ntmps17
  go_wp2_with fail
  go_ret
  exact ⟨by rw [← HD.out]; rfl, HB.out⟩
def IdxHas (l : List App) (s : List UInt8) (e : Ending) : Prop := ∃ i : Int, e = .returned (.int .i64 i) ∧ (0 ≤ i ↔ hasId l s = true)
set_option maxRecDepth 100000 in
set_option maxHeartbeats 2000000 in
theorem idxHas_any (v : Value) (l : List App) (s : List UInt8) (bx : Nat) (w : World) (h0 : (Rp.sl appRp).ok w (· < w.heap.size) [v] l) (hb : w.cell? ⟨bx, 0, none⟩ = some (.string (bstr s))) :
    Calls Tryd.prog 33 #[v, .func (.func 17) #[] #[.pointer (some ⟨bx, 0, none⟩)]] w fun e w' => IdxHas l s e ∧ Below w.heap.size w w' := by
  obtain ⟨A, c, rfl, hl, hc, _⟩ := Rp.sl_open h0
  unfold maxLen at hc
  have hbx := World.block_lt_of_cell? w _ hb
  have H0 := Lib.hid h0
  have HBX := Lib.hid hb
  clear h0 hb
  go_enter Tryd.func33, Tryd.ntmps33
  go_wp2_with fail
  go_loopw [8] (fun i wr => ∃ k : Nat, k ≤ l.length ∧ i = .int .i64 k ∧ Hid (∀ y ∈ l.take k, decide (y.id = s) = false) ∧ Hid (Below w.heap.size w wr)) (fun i _ => l.length - (intOf i).toNat)
  case atStart => exact ⟨0, by omega, rfl, by simp [Hid], Below.refl _ _⟩
  case round =>
    obtain ⟨k, hk, rfl, HS, HB⟩ := hrel
    by_cases hlt : k < l.length
    · obtain ⟨ad, cc, e1, hadb, c0, c1, c2, c3, hz⟩ := app_at (Rp.below _ H0.out HB.out) hlt
      injection e1 with e1 _ e2
      subst e1 e2
      have hcon := Lib.hid (hasFn_any l[k] s bx wr ((HB.out.cell (p := ⟨bx, 0, none⟩) hbx).trans HBX.out))
      have HY : Hid (decide (l[k].id = s) = true → hasId l s = true) := Lib.hid (fun h => by
        unfold hasId
        rw [List.any_eq_true]
        exact ⟨l[k], List.getElem_mem hlt, h⟩)
      have HN : Hid (decide (l[k].id = s) = false → ∀ y ∈ l.take (k + 1), decide (y.id = s) = false) := Lib.hid (fun h y hy => by
        rcases take_one hlt hy with e | e
        · exact HS.out y e
        · rw [e]; exact h)
      generalize l[k] = x at *
      go_wp2_with fail
      refine hcon.out.mono ?_
      rintro e w5 ⟨rfl, hb5⟩
      have HB5 := Lib.hid (HB.out.trans (hb5.mono HB.out.size))
      clear hb5 hcon c0 c1 c2 c3
      cases hq : decide (x.id = s) with
      | true =>
        have HF := Lib.hid (HY.out hq)
        clear hq HY HN
        go_wp2_with fail
        go_ret
        exact ⟨⟨k, rfl, ⟨fun _ => HF.out, fun _ => by omega⟩⟩, HB5.out⟩
      | false =>
        have F5 := Lib.hid (HN.out hq)
        clear hq HY HN
        go_wp2_with fail
        go_roundw
        case rel => first | exact ⟨k + 1, by omega, by go_num, F5, HB5⟩ | (repeat (apply Exists.intro); (refine And.intro ?_ ?_; rotate_left; (repeat' (first | exact rfl | apply And.intro)); exact ⟨k + 1, by omega, by go_num, F5, HB5⟩))
        case measure => simp [intOf]; omega
    · have HF : Hid (hasId l s = false) := Lib.hid (by
        unfold hasId
        rw [List.any_eq_false]
        intro y hy
        rw [HS.out y (by rw [List.take_of_length_le (by omega)]; exact hy)]; decide)
      go_wp2_with fail
      go_ret
      exact ⟨⟨-1, rfl, ⟨fun h => absurd h (by decide), fun h => by rw [HF.out] at h; cases h⟩⟩, HB.out⟩
set_option maxRecDepth 100000 in
set_option maxHeartbeats 1000000 in
theorem anyHas_any (v : Value) (l : List App) (s : List UInt8) (bx : Nat) (w : World) (h0 : (Rp.sl appRp).ok w (· < w.heap.size) [v] l) (hb : w.cell? ⟨bx, 0, none⟩ = some (.string (bstr s))) :
    Calls Tryd.prog 16 #[v, .func (.func 17) #[] #[.pointer (some ⟨bx, 0, none⟩)]] w fun e w' => e = .returned (.bool (hasId l s)) ∧ Below w.heap.size w w' := by
  go_enter Tryd.func16, Tryd.ntmps16
  go_wp2_with fail
  refine (idxHas_any v l s bx w h0 hb).mono ?_
  rintro e w1 ⟨⟨i, rfl, HI⟩, hb1⟩
  have HB := Lib.hid hb1
  have HII := Lib.hid HI
  clear hb1 HI h0 hb
  by_cases hi : 0 ≤ i
  · have HD := Lib.hid (HII.out.1 hi)
    go_wp2_with fail
    go_ret
    exact ⟨by rw [HD.out]; rfl, HB.out⟩
  · have HD : Hid (hasId l s = false) := Lib.hid (by cases q : hasId l s with | false => rfl | true => exact absurd (HII.out.2 q) hi)
    have hid : decide (0 ≤ i) = false := decide_eq_false hi
    have HDI := Lib.hid hid
    clear hid
    go_wp2_with fail
    go_ret
    exact ⟨by rw [HD.out]; show Ending.returned (.bool (decide (0 ≤ i))) = _; rw [HDI.out], HB.out⟩
end Go.Proofs.YtgbpnghgcffkbaaDoor
namespace Go.Proofs.YtgbpnghgcffkbaaDoor
open Go.RowKit
set_option linter.unusedVariables false
set_option linter.unusedSimpArgs false

theorem stepR_ask {rs : List Req} {x : App} {P : App → Prop} (h : ∀ r ∈ rs, P r.ask) (hx : P x) : ∀ r ∈ (stepR rs x).2, P r.ask := by
  intro r hr
  unfold stepR at hr
  cases hq : reqIx rs x.id with
  | none =>
    rw [hq] at hr
    dsimp only at hr
    split at hr
    · rw [List.mem_append] at hr
      rcases hr with hr | hr
      · exact h r hr
      · rw [List.mem_singleton] at hr; subst hr; exact hx
    · exact h r hr
  | some i =>
    rw [hq] at hr
    dsimp only at hr
    split at hr
    · exact h r hr
    · cases ht : takeR (rs.getD i default) x with
      | none => rw [ht] at hr; exact h r hr
      | some r' =>
        rw [ht] at hr
        obtain ⟨hi, _⟩ := reqIx_some hq
        rcases List.mem_or_eq_of_mem_set hr with hr | rfl
        · exact h r hr
        · rw [takeR_ask ht, getD_at _ _ hi]
          exact h _ (List.getElem_mem hi)
theorem rsAt_ask {l : List App} {P : App → Prop} : ∀ k, (∀ j, j < k → P (l.getD j default)) → ∀ r ∈ rsAt l k, P r.ask
  | 0, _ => fun r hr => by cases hr
  | k + 1, h => stepR_ask (rsAt_ask k (fun j hj => h j (by omega))) (h k (by omega))
theorem nowAt_ask {l : List App} {at_ : Int} {P : App → Prop} : ∀ k, (∀ j, j < k → P (l.getD j default)) → ∀ r ∈ nowAt l at_ k, P r.ask
  | 0, _ => fun r hr => by cases hr
  | k + 1, h => by
    rw [nowAt]
    split
    · exact rsAt_ask (k + 1) h
    · exact nowAt_ask k (fun j hj => h j (by omega))
theorem nowAt_len (l : List App) (at_ : Int) : ∀ k, (nowAt l at_ k).length ≤ k
  | 0 => by simp [nowAt]
  | k + 1 => by
    rw [nowAt]
    split
    · exact rsAt_len l (k + 1)
    · exact Nat.le_trans (nowAt_len l at_ k) (by omega)
theorem appF_at {x : App} (h : appF x = 0) : 0 ≤ x.at_ ∧ x.at_ ≤ 253402300799 := by
  unfold appF at h
  split at h
  · cases h
  · split at h
    · cases h
    · split at h
      · cases h
      · rename_i h3
        have : withinB x.at_ 0 253402300799 = true := by simpa using h3
        exact of_decide_eq_true this
theorem folF_app {l : List App} {k : Nat} (h : folF l k = 0) : appF (l.getD k default) = 0 := by
  apply headF_app
  unfold folF at h
  by_cases h2 : headF l k = 0
  · exact h2
  · rw [if_pos h2] at h; exact h
theorem now_in {l : List App} {at_ : Int} (h : appsFault l = 0) : ∀ r ∈ folV l at_, 0 ≤ r.ask.at_ ∧ r.ask.at_ ≤ 253402300799 := by
  rw [folV, if_pos h]
  exact nowAt_ask (P := fun x => 0 ≤ x.at_ ∧ x.at_ ≤ 253402300799) _ (fun j hj => appF_at (folF_app ((apps_all h).2 j hj)))
theorem folV_len {l : List App} {at_ : Int} (h : appsFault l = 0) : (folV l at_).length ≤ 500 := by
  rw [folV, if_pos h]
  exact Nat.le_trans (nowAt_len _ _ _) (apps_all h).1
/-- How a request stands at a moment. -/
def stOne (r : Req) (hold at_ : Int) : Int := if r.state = 2 ∧ r.ask.at_ + hold ≤ at_ then 3 else r.state
def stVal (rs : List Req) (id : List UInt8) (hold at_ : Int) : Int := match reqIx rs id with
  | none => 1
  | some i => stOne (rs.getD i default) hold at_
theorem stVal_none {rs : List Req} {id : List UInt8} {hold at_ : Int} (h : ∀ j, (hj : j < rs.length) → rs[j].ask.id ≠ id) : stVal rs id hold at_ = 1 := by
  unfold stVal
  rcases reqIx_spec rs id with ⟨i, hi, _, h2, _⟩ | ⟨h1, _⟩
  · exact absurd h2 (h i hi)
  · rw [h1]
theorem stVal_some {rs : List Req} {id : List UInt8} {hold at_ : Int} {k : Nat} (hk : k < rs.length) (he : rs[k].ask.id = id) (h : ∀ j, (hj : j < k) → (rs[j]'(by omega)).ask.id ≠ id) : stVal rs id hold at_ = stOne rs[k] hold at_ := by
  unfold stVal
  rcases reqIx_spec rs id with ⟨i, hi, h1, h2, h3⟩ | ⟨_, h2⟩
  · have : i = k := by
      rcases Nat.lt_trichotomy i k with e | e | e
      · exact absurd h2 (h i e)
      · exact e
      · exact absurd he (h3 k e)
    subst this
    rw [h1]
    dsimp only
    rw [getD_at _ _ hk]
  · exact absurd he (h2 k hk)
def stF (l : List App) (id : List UInt8) (hold at_ : Int) : Int := if appsFault l ≠ 0 then appsFault l else if isNm id = false then 5 else if hasId l id = false then 9 else if withinB hold 0 1000000000 = false ∨ withinB at_ 0 253402300799 = false then 1 else 0
def stV (l : List App) (id : List UInt8) (hold at_ : Int) : Int := if stF l id hold at_ = 0 then stVal (folV l at_) id hold at_ else 0
theorem stF_1 {l : List App} {id : List UInt8} {hold at_ : Int} (h : appsFault l ≠ 0) : stF l id hold at_ = appsFault l := if_pos h
theorem stF_2 {l : List App} {id : List UInt8} {hold at_ : Int} (h : appsFault l = 0) (h2 : isNm id = false) : stF l id hold at_ = 5 := by
  rw [stF, if_neg (by rw [h]; decide), if_pos h2]
theorem stF_3 {l : List App} {id : List UInt8} {hold at_ : Int} (h : appsFault l = 0) (h2 : isNm id = true) (h3 : hasId l id = false) : stF l id hold at_ = 9 := by
  rw [stF, if_neg (by rw [h]; decide), if_neg (by rw [h2]; decide), if_pos h3]
theorem stF_4 {l : List App} {id : List UInt8} {hold at_ : Int} (h : appsFault l = 0) (h2 : isNm id = true) (h3 : hasId l id = true) (h4 : withinB hold 0 1000000000 = false ∨ withinB at_ 0 253402300799 = false) : stF l id hold at_ = 1 := by
  rw [stF, if_neg (by rw [h]; decide), if_neg (by rw [h2]; decide), if_neg (by rw [h3]; decide), if_pos h4]
theorem stF_5 {l : List App} {id : List UInt8} {hold at_ : Int} (h : appsFault l = 0) (h2 : isNm id = true) (h3 : hasId l id = true) (h4 : withinB hold 0 1000000000 = true) (h5 : withinB at_ 0 253402300799 = true) : stF l id hold at_ = 0 := by
  rw [stF, if_neg (by rw [h]; decide), if_neg (by rw [h2]; decide), if_neg (by rw [h3]; decide), if_neg (by rw [h4, h5]; decide)]
theorem stV_bad {l : List App} {id : List UInt8} {hold at_ f : Int} (h : stF l id hold at_ = f) (hn : f ≠ 0) : stV l id hold at_ = 0 := if_neg (by rw [h]; exact hn)
theorem stV_ok {l : List App} {id : List UInt8} {hold at_ : Int} (h : stF l id hold at_ = 0) : stV l id hold at_ = stVal (folV l at_) id hold at_ := if_pos h
end Go.Proofs.YtgbpnghgcffkbaaDoor
namespace Go.Proofs.YtgbpnghgcffkbaaDoor
open Go.RowKit
set_option linter.unusedVariables false
set_option linter.unusedSimpArgs false

def StPost (l : List App) (id : List UInt8) (hold at_ : Int) (w : World) (e : Ending) (w' : World) : Prop :=
  e = .returned (.tuple #[.int .i64 (stV l id hold at_), .int .i64 (stF l id hold at_)]) ∧ Below w.heap.size w w'
theorem st_bad {l : List App} {id : List UInt8} {hold at_ f : Int} {w w' : World} (hf : stF l id hold at_ = f) (hn : f ≠ 0) (hb : Below w.heap.size w w') : StPost l id hold at_ w (.returned (.tuple #[.int .i64 0, .int .i64 f])) w' :=
  ⟨by rw [hf, stV_bad hf hn], hb⟩
theorem st_ok {l : List App} {id : List UInt8} {hold at_ v : Int} {w w' : World} (hf : stF l id hold at_ = 0) (hv : stVal (folV l at_) id hold at_ = v) (hb : Below w.heap.size w w') : StPost l id hold at_ w (.returned (.tuple #[.int .i64 v, .int .i64 0])) w' :=
  ⟨by rw [hf, stV_ok hf, hv], hb⟩
theorem RowR.shape {B : Nat} {rs : List Req} {gs : List Nat} {v : Value} {w : World} (h : RowR B rs gs v w) : ∃ p c, v = .slice p rs.length c := by
  have hl := h.len
  rcases h.row.2 with ⟨h1, h2⟩ | ⟨g, cap, cur, h1, _⟩
  · exact ⟨none, 0, by rw [h1, ← hl, h2]⟩
  · exact ⟨some ⟨g, 0, none⟩, cap, by rw [h1, hl]⟩
set_option maxRecDepth 100000 in
set_option maxHeartbeats 4000000 in
theorem stateOf_any (v : Value) (l : List App) (id : List UInt8) (hold at_ : Int) (w : World) (h0 : (Rp.sl appRp).ok w (· < w.heap.size) [v] l) (hi : id.length ≤ 9223372036854775807) :
    Calls Tryd.prog 5 #[v, .string (bstr id), .int .i64 hold, .int .i64 at_] w (StPost l id hold at_ w) := by
  have H0 := Lib.hid h0
  have hal := (Below.refl w.heap.size w).alloc (Nat.le_refl _) (.cells #[.string (bstr id)] 9)
  have HBA := Lib.hid hal
  have HKA := Lib.hid (Blk.new w 9 [.string (bstr id)])
  clear hal h0
  go_enter Tryd.func5, Tryd.ntmps5
  go_wp2_with fail
  obtain ⟨xb, hxb⟩ : ∃ xb, xb = w.heap.size := ⟨_, rfl⟩
  have HXB := Lib.hid (show w.heap.size ≤ xb by omega)
  rw [← hxb] at HKA ⊢
  generalize w.alloc (.cells #[.string (bstr id)] 9) = wa at *
  clear hxb
  refine (follow_any v l at_ wa (Rp.ext _ H0.out HBA.out)).mono ?_
  rintro e w1 ⟨vr, hs, rfl, hR, hb⟩
  have HB1 := Lib.hid (HBA.out.trans (hb.mono HBA.out.size))
  have HR1 := Lib.hid hR
  have HK1 := Lib.hid (HKA.out.same (same_below hb) HKA.out.lt)
  clear hb hR HBA HKA
  by_cases ha : appsFault l = 0
  case neg =>
    have HF : Hid (stF l id hold at_ = appsFault l) := Lib.hid (stF_1 ha)
    have HN := Lib.hid ha
    have hn : (appsFault l != 0) = true := by simpa using ha
    clear ha
    generalize appsFault l = ff at *
    go_wp2_with fail
    go_ret2
    exact st_bad HF.out HN.out HB1.out
  have HA := Lib.hid ha
  rw [ha]
  clear ha
  have x1 := HK1.out.cell 0
  go_wp2_with fail
  refine (isName_any id w1 hi).mono ?_
  rintro e w2 ⟨rfl, hb⟩
  have HB2 := Lib.hid (HB1.out.trans (hb.mono HB1.out.size))
  have HR2 := Lib.hid (HR1.out.below hb)
  have HK2 := Lib.hid (HK1.out.same (same_below hb) HK1.out.lt)
  clear hb HB1 HR1 HK1 x1
  cases q1 : isNm id with
  | false =>
    have HF : Hid (stF l id hold at_ = 5) := Lib.hid (stF_2 HA.out q1)
    clear q1
    go_wp2_with fail
    go_ret2
    exact st_bad HF.out (by decide) HB2.out
  | true =>
  have Q1 := Lib.hid q1
  clear q1
  go_wp2_with fail
  refine (anyHas_any v l id xb w2 (Rp.ext _ H0.out HB2.out) (HK2.out.cell 0)).mono ?_
  rintro e w3 ⟨rfl, hb⟩
  have HB3 := Lib.hid (HB2.out.trans (hb.mono HB2.out.size))
  have HR3 := Lib.hid (HR2.out.below hb)
  have HK3 := Lib.hid (HK2.out.same (same_below hb) HK2.out.lt)
  clear hb HB2 HR2 HK2
  cases q2 : hasId l id with
  | false =>
    have HF : Hid (stF l id hold at_ = 9) := Lib.hid (stF_3 HA.out Q1.out q2)
    clear q2
    go_wp2_with fail
    go_ret2
    exact st_bad HF.out (by decide) HB3.out
  | true =>
  have Q2 := Lib.hid q2
  clear q2
  go_wp2_with fail
  refine (gwithin_any hold 0 1000000000 w3).mono ?_
  rintro e w3 ⟨rfl, rfl⟩
  cases q3 : withinB hold 0 1000000000 with
  | false =>
    have HF : Hid (stF l id hold at_ = 1) := Lib.hid (stF_4 HA.out Q1.out Q2.out (.inl q3))
    clear q3
    go_wp2_with fail
    go_ret2
    exact st_bad HF.out (by decide) HB3.out
  | true =>
  have Q3 := Lib.hid q3
  clear q3
  go_wp2_with fail
  refine (moment_any at_ w3).mono ?_
  rintro e w3 ⟨rfl, rfl⟩
  cases q4 : withinB at_ 0 253402300799 with
  | false =>
    have HF : Hid (stF l id hold at_ = 1) := Lib.hid (stF_4 HA.out Q1.out Q2.out (.inr q4))
    clear q4
    go_wp2_with fail
    go_ret2
    exact st_bad HF.out (by decide) HB3.out
  | true =>
  have HF : Hid (stF l id hold at_ = 0) := Lib.hid (stF_5 HA.out Q1.out Q2.out Q3.out q4)
  have HHO : Hid (0 ≤ hold ∧ hold ≤ 1000000000) := Lib.hid (of_decide_eq_true Q3.out)
  have HIN := Lib.hid (now_in (at_ := at_) HA.out)
  have hln := folV_len (at_ := at_) HA.out
  clear q4 Q1 Q2 Q3
  generalize hrs : folV l at_ = rs at *
  have HRS := Lib.hid hrs
  clear hrs
  have hlr := HR3.out.len
  obtain ⟨B, hB⟩ : ∃ B, B = wa.heap.size := ⟨_, rfl⟩
  rw [← hB] at HR3
  clear hB
  obtain ⟨vp, vc, rfl⟩ := RowR.shape HR3.out
  go_wp2_with fail
  go_loopw [44] (fun vi wr => ∃ k : Nat, k ≤ rs.length ∧ vi = .int .i64 k ∧ Hid (∀ j, (hj : j < rs.length) → j < k → rs[j].ask.id ≠ id) ∧ Hid (Below w3.heap.size w3 wr)) (fun vi _ => rs.length - (intOf vi).toNat)
  case atStart => exact ⟨0, by omega, rfl, Lib.hid (fun j _ hj => absurd hj (by omega)), Below.refl _ _⟩
  case round =>
    obtain ⟨k, hk, rfl, HS, HB⟩ := hrel
    have HBW := Lib.hid (HB3.out.trans (HB.out.mono HB3.out.size))
    by_cases hlt : k < rs.length
    · have hlt' : k < hs.length := by omega
      have HRW := Lib.hid (HR3.out.below HB.out)
      obtain ⟨g, cc, e1, p0⟩ := HRW.out.cell hlt'
      injection e1 with e1 e3 e2
      subst e1 e2
      clear e3
      have hKR := HRW.out.blk k hlt' hlt
      have HKX := Lib.hid (HK3.out.same (same_below HB.out) HK3.out.lt)
      have HV1 : Hid (rs[k].ask.id = id → stVal rs id hold at_ = stOne rs[k] hold at_) := Lib.hid (fun e => stVal_some hlt e (fun j hj => HS.out j (by omega) hj))
      have HV2 : Hid (rs[k].ask.id ≠ id → ∀ j, (hj : j < rs.length) → j < k + 1 → rs[j].ask.id ≠ id) := Lib.hid (fun e j hj hjk => by
        rcases Nat.lt_or_ge j k with h | h
        · exact HS.out j hj h
        · obtain rfl : j = k := by omega
          exact e)
      have HI1 := Lib.hid (HIN.out rs[k] (List.getElem_mem hlt))
      have HLR := Lib.hid hlr
      clear hlr
      generalize hs[k] = q at *
      clear hlt'
      generalize rs[k] = r at *
      have r0 : wr.cell? ⟨q, 0, none⟩ = some (.string (bstr r.ask.id)) := hKR.cell 0
      have r2 : wr.cell? ⟨q, 2, none⟩ = some (.int .i64 r.ask.at_) := hKR.cell 2
      have r4 : wr.cell? ⟨q, 4, none⟩ = some (.int .i64 r.state) := hKR.cell 4
      have rx : wr.cell? ⟨xb, 0, none⟩ = some (.string (bstr id)) := HKX.out.cell 0
      have HKR := Lib.hid hKR
      clear hKR
      by_cases he : r.ask.id = id
      · have hbq : ((bstr r.ask.id).toList == (bstr id).toList) = true := by rw [he]; simp
        have HV3 := Lib.hid (HV1.out he)
        clear HV1 HV2 he
        go_wp2_with fail
        go_quiet (fail)
        try rw [hbq]
        clear hbq r0 rx
        by_cases hs2 : r.state = 2
        · have hov : IntKind.i64.wrap (r.ask.at_ + hold) = r.ask.at_ + hold := IntWalk.i64_in _ (by have := HI1.out; have := HHO.out; omega)
          by_cases hd : r.ask.at_ + hold ≤ at_
          · have HV4 := Lib.hid (HV3.out.trans (show stOne r hold at_ = 3 from if_pos ⟨hs2, hd⟩))
            clear HV3
            go_wp2_with fail
            go_ret2
            exact st_ok HF.out (by rw [HRS.out]; first | exact HV4.out | exact HV4.out.trans hs2) (below_drewN HBW.out nq)
          · have HV4 := Lib.hid (HV3.out.trans (show stOne r hold at_ = r.state from if_neg (fun e => hd e.2)))
            clear HV3
            go_wp2_with fail
            go_ret2
            exact st_ok HF.out (by rw [HRS.out]; first | exact HV4.out | exact HV4.out.trans hs2) (below_drewN HBW.out nq)
        · have HV4 := Lib.hid (HV3.out.trans (show stOne r hold at_ = r.state from if_neg (fun e => hs2 e.1)))
          clear HV3
          go_wp2_with fail
          go_ret2
          exact st_ok HF.out (by rw [HRS.out]; first | exact HV4.out | exact HV4.out.trans hs2) (below_drewN HBW.out nq)
      · have hbq : ((bstr r.ask.id).toList == (bstr id).toList) = false := str_bne (fun e => he (bstr_inj e))
        have HV3 := Lib.hid (HV2.out he)
        clear HV1 HV2 he
        go_wp2_with fail
        go_quiet (fail)
        try rw [hbq]
        clear hbq r0 rx r2 r4
        go_wp2_with fail
        have HBX := Lib.hid (below_drewN HB.out nq)
        go_roundw
        case rel => first | exact ⟨k + 1, by omega, by go_num, HV3, HBX⟩ | (repeat (apply Exists.intro); (refine And.intro ?_ ?_; rotate_left; (repeat' (first | exact rfl | apply And.intro)); exact ⟨k + 1, by omega, by go_num, HV3, HBX⟩))
        case measure => simp [intOf]; omega
    · have HV : Hid (stVal rs id hold at_ = 1) := Lib.hid (stVal_none (fun j hj => HS.out j hj (by omega)))
      go_wp2_with fail
      go_ret2
      exact st_ok HF.out (by rw [HRS.out]; exact HV.out) HBW.out
end Go.Proofs.YtgbpnghgcffkbaaDoor
namespace Go.Proofs.YtgbpnghgcffkbaaDoor
open Go.RowKit
set_option linter.unusedVariables false
set_option linter.unusedSimpArgs false

def tdEnd0 (r : Req) : Int := if 0 ≤ r.end_ then r.end_ else 253402300800
def tdEnd (r : Req) (hold : Int) : Int := if r.grant = false then min (tdEnd0 r) (r.ask.at_ + hold) else tdEnd0 r
def tdRgt (r : Req) (hold : Int) : Rgt := ⟨r.ask.id, r.ask.pre, 0, 253402300800, r.ask.at_, tdEnd r hold, r.ask.at_, 4, []⟩
def tdOne (r : Req) (hold : Int) : List Rgt := if tdEnd r hold ≤ r.ask.at_ then [] else [tdRgt r hold]
def tdAt (rs : List Req) (hold : Int) : Nat → List Rgt
  | 0 => []
  | k + 1 => tdAt rs hold k ++ tdOne (rs.getD k default) hold
theorem tdAt_len (rs : List Req) (hold : Int) : ∀ k, (tdAt rs hold k).length ≤ k
  | 0 => by simp [tdAt]
  | k + 1 => by
    rw [tdAt, List.length_append]
    have := tdAt_len rs hold k
    have : (tdOne (rs.getD k default) hold).length ≤ 1 := by unfold tdOne; split <;> simp
    omega
def tdAll (l : List App) (hold : Int) : List Rgt := tdAt (folV l 253402300799) hold (folV l 253402300799).length
def tdF (l : List App) (hold : Int) : Int := if appsFault l ≠ 0 then appsFault l else if withinB hold 0 1000000000 = false then 1 else if 300 < (tdAll l hold).length then 2 else 0
def tdV (l : List App) (hold : Int) : List Rgt := if tdF l hold = 0 then tdAll l hold else []
theorem tdF_1 {l : List App} {hold : Int} (h : appsFault l ≠ 0) : tdF l hold = appsFault l := if_pos h
theorem tdF_2 {l : List App} {hold : Int} (h : appsFault l = 0) (h2 : withinB hold 0 1000000000 = false) : tdF l hold = 1 := by
  rw [tdF, if_neg (by rw [h]; decide), if_pos h2]
theorem tdF_3 {l : List App} {hold : Int} (h : appsFault l = 0) (h2 : withinB hold 0 1000000000 = true) (h3 : 300 < (tdAll l hold).length) : tdF l hold = 2 := by
  rw [tdF, if_neg (by rw [h]; decide), if_neg (by rw [h2]; decide), if_pos h3]
theorem tdF_4 {l : List App} {hold : Int} (h : appsFault l = 0) (h2 : withinB hold 0 1000000000 = true) (h3 : ¬ 300 < (tdAll l hold).length) : tdF l hold = 0 := by
  rw [tdF, if_neg (by rw [h]; decide), if_neg (by rw [h2]; decide), if_neg h3]
theorem tdV_bad {l : List App} {hold f : Int} (h : tdF l hold = f) (hn : f ≠ 0) : tdV l hold = [] := if_neg (by rw [h]; exact hn)
theorem tdV_ok {l : List App} {hold : Int} (h : tdF l hold = 0) : tdV l hold = tdAll l hold := if_pos h
end Go.Proofs.YtgbpnghgcffkbaaDoor
namespace Go.Proofs.YtgbpnghgcffkbaaDoor
open Go.RowKit
set_option linter.unusedVariables false
set_option linter.unusedSimpArgs false

def stpCells (s : Stp) : List Value := [.string (bstr s.ask.id), .int .i64 s.ask.kind, .int .i64 s.ask.at_, .string (bstr s.ask.pre), .bool s.granted, .int .i64 s.ended, .int .i64 s.end_]
def endE (s : Stp) : Int := if s.ended ≠ 0 then s.end_ else 253402300800
def endV (s : Stp) (hold : Int) : Int := min (if s.granted = false then min (endE s) (s.ask.at_ + hold) else endE s) 253402300800
set_option maxRecDepth 100000 in
set_option maxHeartbeats 2000000 in
theorem endOf_any (s : Stp) (hold : Int) (w : World) (h1 : 0 ≤ s.ask.at_ ∧ s.ask.at_ ≤ 253402300799) (h2 : 0 ≤ hold ∧ hold ≤ 1000000000) :
    Calls Tryd.prog 29 #[.agg #[.string (bstr s.ask.id), .int .i64 s.ask.kind, .int .i64 s.ask.at_, .string (bstr s.ask.pre), .bool s.granted, .int .i64 s.ended, .int .i64 s.end_], .int .i64 hold] w fun e w' => e = .returned (.int .i64 (endV s hold)) ∧ Below w.heap.size w w' := by
  obtain ⟨x, gr, en, ed⟩ := s
  dsimp only at h1 ⊢
  have HB := Lib.hid ((Below.refl w.heap.size w).alloc (Nat.le_refl _) (.cells #[.string (bstr x.id), .int .i64 x.kind, .int .i64 x.at_, .string (bstr x.pre), .bool gr, .int .i64 en, .int .i64 ed] 60))
  have HK := Lib.hid (Blk.new w 60 [.string (bstr x.id), .int .i64 x.kind, .int .i64 x.at_, .string (bstr x.pre), .bool gr, .int .i64 en, .int .i64 ed])
  have hov : IntKind.i64.wrap (x.at_ + hold) = x.at_ + hold := IntWalk.i64_in _ (by omega)
  have x2 : (w.alloc (.cells #[.string (bstr x.id), .int .i64 x.kind, .int .i64 x.at_, .string (bstr x.pre), .bool gr, .int .i64 en, .int .i64 ed] 60)).cell? ⟨w.heap.size, 2, none⟩ = some (.int .i64 x.at_) := HK.out.cell 2
  have x4 : (w.alloc (.cells #[.string (bstr x.id), .int .i64 x.kind, .int .i64 x.at_, .string (bstr x.pre), .bool gr, .int .i64 en, .int .i64 ed] 60)).cell? ⟨w.heap.size, 4, none⟩ = some (.bool gr) := HK.out.cell 4
  have x5 : (w.alloc (.cells #[.string (bstr x.id), .int .i64 x.kind, .int .i64 x.at_, .string (bstr x.pre), .bool gr, .int .i64 en, .int .i64 ed] 60)).cell? ⟨w.heap.size, 5, none⟩ = some (.int .i64 en) := HK.out.cell 5
  have x6 : (w.alloc (.cells #[.string (bstr x.id), .int .i64 x.kind, .int .i64 x.at_, .string (bstr x.pre), .bool gr, .int .i64 en, .int .i64 ed] 60)).cell? ⟨w.heap.size, 6, none⟩ = some (.int .i64 ed) := HK.out.cell 6
  by_cases he : en = 0
  · subst he
    cases gr with
    | false =>
      have HV : Hid (endV ⟨x, false, 0, ed⟩ hold = min (min 253402300800 (x.at_ + hold)) 253402300800) := Lib.hid (by rw [endV, endE, if_pos rfl, if_neg (by simp)])
      go_enter Tryd.func29, Tryd.ntmps29
      go_wp2_with fail
      go_ret
      exact ⟨by rw [HV.out]; show Ending.returned (Value.int .i64 _) = _; (first | rfl | (congr 2; omega)), HB.out⟩
    | true =>
      have HV : Hid (endV ⟨x, true, 0, ed⟩ hold = 253402300800) := Lib.hid (by rw [endV, endE, if_neg (by simp), if_neg (by simp)]; rfl)
      go_enter Tryd.func29, Tryd.ntmps29
      go_wp2_with fail
      go_ret
      exact ⟨by rw [HV.out]; show Ending.returned (Value.int .i64 _) = _; (first | rfl | (congr 2; omega)), HB.out⟩
  · cases gr with
    | false =>
      have HV : Hid (endV ⟨x, false, en, ed⟩ hold = min (min ed (x.at_ + hold)) 253402300800) := Lib.hid (by rw [endV, endE, if_pos rfl, if_pos he])
      go_enter Tryd.func29, Tryd.ntmps29
      go_wp2_with fail
      go_ret
      exact ⟨by rw [HV.out]; show Ending.returned (Value.int .i64 _) = _; (first | rfl | (congr 2; omega)), HB.out⟩
    | true =>
      have HV : Hid (endV ⟨x, true, en, ed⟩ hold = min ed 253402300800) := Lib.hid (by rw [endV, endE, if_neg (by simp), if_pos he])
      go_enter Tryd.func29, Tryd.ntmps29
      go_wp2_with fail
      go_ret
      exact ⟨by rw [HV.out]; show Ending.returned (Value.int .i64 _) = _; (first | rfl | (congr 2; omega)), HB.out⟩
end Go.Proofs.YtgbpnghgcffkbaaDoor
