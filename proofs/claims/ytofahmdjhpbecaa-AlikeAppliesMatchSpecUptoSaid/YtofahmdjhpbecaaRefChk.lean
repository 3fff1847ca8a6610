/-
  'checkChanges' of the reference: the form of changes.
-/
import Derived.Test.YtofahmdjhpbecaaProg
import Derived.Test.YtofahmdjhpbecaaAppPlain
namespace Go.Proofs.Ytofahmdjhpbecaa
open Go.RowKit
set_option linter.unusedVariables false
set_option linter.unusedSimpArgs false

def chkAll (l : List Ch) : Int := if tooMany l = true then 2 else chsFault l
def ChkPost (l : List Ch) (w : World) (e : Ending) (w' : World) : Prop := e = .returned (.int .i64 (chkAll l)) ∧ Below w.heap.size w w'
theorem chk_1 {l : List Ch} (h : 800 < l.length) : chkAll l = 2 := if_pos (by rw [tooMany, decide_eq_true h]; rfl)
theorem chk_2 {l : List Ch} {k : Nat} (h : k < l.length) (hb : (400 : Int) < l[k].ls.length) : chkAll l = 2 := by
  refine if_pos ?_
  rw [tooMany, Bool.or_eq_true]
  exact .inr (List.any_eq_true.2 ⟨_, List.getElem_mem h, decide_eq_true hb⟩)
theorem chk_3 {l : List Ch} (h : ¬ 800 < l.length) (h2 : (l.any fun c => decide ((400 : Int) < c.ls.length)) = false) : chkAll l = chsFault l := by
  refine if_neg ?_
  rw [tooMany, h2, decide_eq_false h]; decide
theorem take_any {l : List Ch} {k : Nat} (h : ((l.take k).any fun c => decide ((400 : Int) < c.ls.length)) = false) (hk : k < l.length) (hb : ¬ (400 : Int) < l[k].ls.length) : ((l.take (k + 1)).any fun c => decide ((400 : Int) < c.ls.length)) = false := by
  rw [List.take_succ_eq_append_getElem hk, List.any_append, h]; simpa using hb
theorem chf_4 {c : Ch} (h : c.kind < 1 ∨ 3 < c.kind) : chFault c = 4 := if_pos h
theorem chf_9 {c : Ch} (h1 : 1 ≤ c.kind) (h2 : c.kind ≤ 3) (h : c.ls.length = 0) : chFault c = 9 := by rw [chFault, if_neg (by omega), if_pos (List.eq_nil_of_length_eq_zero h)]
theorem chf_3 {c : Ch} (h1 : 1 ≤ c.kind) (h2 : c.kind ≤ 3) (h3 : 0 < c.ls.length) {q : Nat} (hq : q < c.ls.length) (h : lineOk c.ls[q] = false) : chFault c = 3 := by
  rw [chFault, if_neg (by omega), if_neg (fun e => by rw [e] at h3; simp at h3), if_neg]
  rw [List.all_eq_true]
  exact fun e => by have := e _ (List.getElem_mem hq); rw [h] at this; cases this
theorem chf_0 {c : Ch} (h1 : 1 ≤ c.kind) (h2 : c.kind ≤ 3) (h3 : 0 < c.ls.length) (h : c.ls.all lineOk = true) : chFault c = 0 := by
  rw [chFault, if_neg (by omega), if_neg (fun e => by rw [e] at h3; simp at h3), if_pos h]
theorem all_take1 {α : Type} {p : α → Bool} {O : List α} {q : Nat} (h : (O.take q).all p = true) (hq : q < O.length) (hb : p O[q] = true) : (O.take (q + 1)).all p = true := by
  rw [List.take_succ_eq_append_getElem hq, List.all_append, h]; simpa using hb

set_option maxRecDepth 100000 in
set_option maxHeartbeats 4000000 in
theorem checkChanges_any (v : Value) (l : List Ch) (w : World) (h : (Rp.sl chRp).ok w (· < w.heap.size) [v] l) : Calls Try.prog 101 #[v] w (ChkPost l w) := by
  obtain ⟨A, c, rfl, hl, hc, _⟩ := Rp.sl_open h
  unfold maxLen at hc
  have H := Lib.hid h
  clear h
  by_cases h8 : 800 < l.length
  · have HP : Hid (ChkPost l w (.returned (.int .i64 2)) w) := Lib.hid ⟨by rw [chk_1 h8], Below.refl _ _⟩
    have h8' : (800 : Int) < (l.length : Int) := by omega
    go_enter Try.func101, Try.ntmps101
    go_wp2
    go_ret
    exact HP.out
  have h8' : ¬ (800 : Int) < (l.length : Int) := by omega
  go_enter Try.func101, Try.ntmps101
  go_wp2
  go_loopw [14] (fun i wr => ∃ k : Nat, k ≤ l.length ∧ i = .int .i64 k ∧ Hid (((l.take k).any fun c => decide ((400 : Int) < c.ls.length)) = false) ∧ Hid (Below w.heap.size w wr)) (fun i _ => l.length - (intOf i).toNat)
  case atStart => exact ⟨0, by omega, rfl, rfl, Below.refl _ _⟩
  case round =>
    obtain ⟨k, hk, rfl, HS, HB⟩ := hrel
    by_cases hlt : k < l.length
    · obtain ⟨ad, us, rfl, _, hadb, hu, hcell⟩ := Rp.sl_at (Rp.below _ H.out HB.out) hlt
      obtain ⟨vb, rfl, hvb, hw1⟩ := ch_open hu
      have c0 : wr.cell? (ad.add (k * 2)) = some (.int .i64 l[k].kind) := hcell 0 _ rfl
      have c1 := hcell 1 _ rfl
      rw [add_fld _ _ _ (by omega)] at c1
      change wr.cell? ⟨(ad.add (k * 2)).block, (ad.add (k * 2)).off + 1, none⟩ = some vb at c1
      obtain ⟨A3, c3, rfl, hl3, hc3, _⟩ := Rp.sl_open hvb
      rw [List.length_map] at hl3 c1
      unfold maxLen at hc3
      have HT := Lib.hid (fun hb => take_any HS.out hlt hb)
      have HX := Lib.hid (fun hb => chk_2 (l := l) hlt hb)
      clear hcell hu hvb hw1 hadb
      generalize l[k] = ch at *
      obtain ⟨kind, ls⟩ := ch
      simp only [] at c0 c1 hl3 HT HX
      have HHB := Lib.hid (HB.out.alloc HB.out.size (.cells #[.int .i64 kind, .slice A3 ls.length c3] 109))
      by_cases hd : (400 : Int) < ls.length
      · have HP : Hid (ChkPost l w (.returned (.int .i64 2)) (wr.alloc (.cells #[.int .i64 kind, .slice A3 ls.length c3] 109))) := Lib.hid ⟨by rw [HX.out hd], HHB.out⟩
        clear HX HT
        go_wp2
        go_ret
        exact HP.out
      · have HT1 := Lib.hid (HT.out hd)
        clear HX HT
        go_wp2
        go_roundw
        case rel => exact ⟨k + 1, by omega, by go_num, HT1, HHB⟩
        case measure => simp [intOf]; omega
    · obtain rfl : k = l.length := by omega
      rw [List.take_length] at HS
      have HCK := Lib.hid (chk_3 h8 HS.out)
      have HB0 := HB
      clear HS hlt hk h8 h8'
      go_wp2
      go_loopw [25] (fun i w2 => ∃ k : Nat, k ≤ l.length ∧ i = .int .i64 k ∧ Hid (∀ c ∈ l.take k, chFault c = 0) ∧ Hid (Below w.heap.size w w2)) (fun i _ => l.length - (intOf i).toNat)
      case atStart => exact ⟨0, by omega, rfl, (fun c hc => by simp at hc), HB0.out⟩
      case round =>
        clear HB HB0
        obtain ⟨k, hk, rfl, HS, HB⟩ := hrel
        by_cases hlt : k < l.length
        · obtain ⟨ad, us, rfl, _, hadb, hu, hcell⟩ := Rp.sl_at (Rp.below _ H.out HB.out) hlt
          obtain ⟨vb, rfl, hvb, hw1⟩ := ch_open hu
          have c0 := hcell 0 _ rfl
          rw [Nat.add_zero] at c0
          change World.cell? _ (ad.add (k * 2)) = some (.int .i64 l[k].kind) at c0
          have c1 := hcell 1 _ rfl
          rw [add_fld _ _ _ (by omega)] at c1
          change World.cell? _ ⟨(ad.add (k * 2)).block, (ad.add (k * 2)).off + 1, none⟩ = some vb at c1
          obtain ⟨A3, c3, rfl, hl3, hc3, _⟩ := Rp.sl_open hvb
          rw [List.length_map] at hl3 c1 hvb
          unfold maxLen at hc3
          have HT := Lib.hid (fun hb => chsFault_take HS.out hlt hb)
          have HX : Hid (∀ f : Int, chFault l[k] = f → f ≠ 0 → chkAll l = f) := Lib.hid (fun f hf h0 => by rw [HCK.out, chsFault_at l k hlt HS.out (by rw [hf]; exact h0), hf])
          have HHB := Lib.hid (HB.out.alloc HB.out.size (.cells #[.int .i64 l[k].kind, .slice A3 l[k].ls.length c3] 109))
          have hev := Rp.below _ hvb ((Below.refl w.heap.size _).alloc HB.out.size (.cells #[.int .i64 l[k].kind, .slice A3 l[k].ls.length c3] 109))
          have HEV := Lib.hid hev
          clear hcell hu hvb hw1 hadb hev
          generalize l[k] = ch at *
          have HX4 := Lib.hid (fun h => HX.out 4 (chf_4 (c := ch) h) (by decide))
          have HX9 := Lib.hid (fun h1 h2 h => HX.out 9 (chf_9 (c := ch) h1 h2 h) (by decide))
          have HX3 := Lib.hid (fun h1 h2 h3 q hq h => HX.out 3 (chf_3 (c := ch) h1 h2 h3 (q := q) hq h) (by decide))
          have HX0 := Lib.hid (fun h1 h2 h3 h => HT.out (chf_0 (c := ch) h1 h2 h3 h))
          clear HX HT
          obtain ⟨kind, ls⟩ := ch
          simp only [] at c0 c1 hl3 HX4 HX9 HX3 HX0 HEV HHB
          by_cases hkd : kind < 1 ∨ 3 < kind
          · have HE := Lib.hid (HX4.out hkd)
            have key : kind < 1 ∨ (1 ≤ kind ∧ ¬ kind ≤ 3) := by omega
            clear hkd
            rcases key with q | ⟨q, q2⟩
            all_goals
              go_wp2
              go_ret
              exact ⟨by rw [HE.out]; rfl, HHB.out⟩
          have q1 : 1 ≤ kind := by omega
          have q2 : kind ≤ 3 := by omega
          clear hkd HX4
          by_cases h0 : ls.length = 0
          · have HE := Lib.hid (HX9.out q1 q2 h0)
            have hb : ((ls.length : Int) == 0) = true := by simp [h0]
            clear h0
            go_wp2
            go_ret
            exact ⟨by rw [HE.out]; rfl, HHB.out⟩
          have hb : ((ls.length : Int) == 0) = false := by rw [beq_eq_false_iff_ne]; omega
          have HY3 := Lib.hid (HX3.out q1 q2 (by omega))
          have HY0 := Lib.hid (HX0.out q1 q2 (by omega))
          clear HX9 HX3 HX0
          go_wp2
          go_loop [40] (fun i => ∃ q : Nat, q ≤ ls.length ∧ i = .int .i64 q ∧ Hid ((ls.take q).all lineOk = true)) (fun i => ls.length - (intOf i).toNat)
          case atStart => exact ⟨0, by omega, rfl, rfl⟩
          case round =>
            obtain ⟨q, hq, rfl, HQ⟩ := hrel
            by_cases hql : q < ls.length
            · obtain ⟨ad2, u, rfl, _, hu, hcell⟩ := Rp.sl_at1 rfl HEV.out (k := q) (by simpa using hql)
              obtain ⟨e1, hz⟩ := hu
              injection e1 with e1
              subst e1
              rw [List.getElem_map] at hcell hz
              have HTK := Lib.hid (fun hb => all_take1 (p := lineOk) HQ.out hql hb)
              have HBAD := Lib.hid (fun hb => HY3.out q hql hb)
              generalize ls[q] = s at *
              rw [bstr_size] at hz
              unfold maxLen at hz
              go_wp2_with fail
              refine (isLine_any s _ (by omega)).mono ?_
              rintro e w1 ⟨rfl, rfl⟩
              by_cases hok : lineOk s = true
              · have HT2 := Lib.hid (HTK.out hok)
                rw [hok]
                clear hok HTK HBAD
                go_wp2_with fail
                go_round
                case rel => exact ⟨q + 1, by omega, by go_num, HT2⟩
                case measure => simp [intOf]; omega
              · have HE := Lib.hid (HBAD.out (Bool.eq_false_iff.2 hok))
                rw [Bool.eq_false_iff.2 hok]
                clear hok HTK HBAD
                go_wp2_with fail
                go_ret
                exact ⟨by rw [HE.out]; rfl, HHB.out⟩
            · obtain rfl : q = ls.length := by omega
              rw [List.take_length] at HQ
              have HT1 := Lib.hid (HY0.out HQ.out)
              go_wp2_with fail
              go_roundw
              case rel => exact ⟨k + 1, by omega, by go_num, HT1, HHB⟩
              case measure => simp [intOf]; omega
        · obtain rfl : k = l.length := by omega
          rw [List.take_length] at HS
          have HE : Hid (chkAll l = 0) := Lib.hid (by rw [HCK.out, chsFault_good l HS.out])
          go_wp2
          go_ret
          exact ⟨by rw [HE.out]; rfl, HB.out⟩
end Go.Proofs.Ytofahmdjhpbecaa
