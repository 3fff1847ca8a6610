/-
  slices.Contains of strings; who is in a team: 'isIn' and 'TeamsOf' of package rights and of the reference of chapter 10.
-/
import Derived.Test.YtdljgjlkfihjdaaGreatDoorChkTeams
namespace Go.Proofs.YtdljgjlkfihjdaaGreatDoor
open Go.RowKit
set_option linter.unusedVariables false
set_option linter.unusedSimpArgs false

set_option maxRecDepth 100000 in
set_option maxHeartbeats 1000000 in
theorem indexStr_any (v : Value) (l : List (List UInt8)) (x : List UInt8) (w : World) (S : Nat → Prop) (h : (Rp.sl Rp.str).ok w S [v] (l.map bstr)) :
    Calls Tryz.prog 76 #[v, .string (bstr x)] w fun e w' => ∃ i : Int, e = .returned (.int .i64 i) ∧ Hid (0 ≤ i ↔ x ∈ l) ∧ w' = w := by
  obtain ⟨A, c, rfl, hl, hc, _⟩ := Rp.sl_open h
  unfold maxLen at hc
  rw [List.length_map] at *
  have H := Lib.hid h
  clear h
  go_enter Tryz.func76, Tryz.ntmps76
  go_wp2
  go_loop [8] (fun i => ∃ k : Nat, k ≤ l.length ∧ i = .int .i64 k ∧ Hid (∀ y ∈ l.take k, y ≠ x)) (fun i => l.length - (intOf i).toNat)
  case atStart => exact ⟨0, by omega, rfl, by simp [Hid]⟩
  case round =>
    obtain ⟨k, hk, rfl, HT⟩ := hrel
    by_cases hlt : k < l.length
    · have hkm : k < (l.map bstr).length := by rw [List.length_map]; exact hlt
      have H' := H.out
      obtain ⟨ad, u, rfl, _, hu, hcell⟩ := Rp.sl_at1 rfl H' hkm
      obtain ⟨e1, _⟩ := hu
      injection e1 with e1
      subst e1
      rw [List.getElem_map] at hcell
      by_cases hq : x = l[k]
      · have hb1 : ((bstr x).toList == (bstr l[k]).toList) = true := str_beq (by rw [hq])
        have HM : Hid (x ∈ l) := Lib.hid (by rw [hq]; exact List.getElem_mem hlt)
        clear hq H'
        go_wp2
        go_ret
        exact ⟨k, rfl, Lib.hid ⟨fun _ => HM.out, fun _ => by omega⟩, rfl⟩
      · have hb1 : ((bstr x).toList == (bstr l[k]).toList) = false := str_bne (fun e => hq (bstr_inj e))
        have HT2 : Hid (∀ y ∈ l.take (k + 1), y ≠ x) := fun y hy => by
          rw [List.take_succ_eq_append_getElem hlt, List.mem_append, List.mem_singleton] at hy
          rcases hy with hy | rfl
          · exact HT.out y hy
          · exact Ne.symm hq
        clear hq H'
        go_wp2
        go_round
        case rel => exact ⟨k + 1, by omega, by go_num, HT2⟩
        case measure => simp [intOf]; omega
    · have HM : Hid (x ∉ l) := Lib.hid (fun hx => HT.out x (by rw [List.take_of_length_le (by omega)]; exact hx) rfl)
      go_wp2
      go_ret
      exact ⟨-1, rfl, Lib.hid ⟨fun h => absurd h (by decide), fun h => absurd h HM.out⟩, rfl⟩
set_option maxRecDepth 100000 in
set_option maxHeartbeats 1000000 in
theorem contains_any (v : Value) (l : List (List UInt8)) (x : List UInt8) (w : World) (S : Nat → Prop) (h : (Rp.sl Rp.str).ok w S [v] (l.map bstr)) :
    Calls Tryz.prog 62 #[v, .string (bstr x)] w fun e w' => e = .returned (.bool (decide (x ∈ l))) ∧ w' = w := by
  have hi := indexStr_any v l x w S h
  clear h
  go_enter Tryz.func62, Tryz.ntmps62
  go_wp2_with fail
  refine hi.mono ?_
  rintro e w1 ⟨i, rfl, hd, rfl⟩
  clear hi
  by_cases hi : 0 ≤ i
  · have HF := Lib.hid (decide_eq_true (hd.out.1 hi))
    go_wp2_with fail
    go_ret
    exact ⟨by rw [HF.out]; rfl, rfl⟩
  · have HF := Lib.hid (decide_eq_false (fun h => hi (hd.out.2 h)))
    go_wp2_with fail
    go_ret
    exact ⟨by rw [HF.out]; show Ending.returned (.bool (decide (0 ≤ i))) = _; rw [decide_eq_false (by omega)], rfl⟩
theorem containsN_any (v : Value) (l : List (List UInt8)) (x : List UInt8) (w : World) (S : Nat → Prop) (h : namesRp.ok w S [v] l) :
    Calls Tryz.prog 62 #[v, .string (bstr x)] w fun e w' => e = .returned (.bool (decide (x ∈ l))) ∧ w' = w := contains_any v l x w S h
theorem int_small {n : Nat} (h : n ≤ 1000) : (Lit.int .i64 (n : Int)).wf = true := by
  simp [Lit.wf, IntKind.min, IntKind.max, IntKind.signed, IntKind.bits]
  omega
set_option maxRecDepth 100000 in
set_option maxHeartbeats 4000000 in
theorem isIn_any (v : Value) (l : List Team) (i : Nat) (who : List UInt8) (w : World) (h0 : (Rp.sl teamRp).ok w (· < w.heap.size) [v] l) (hg : TGood l) (hi : i < l.length) :
    Calls Tryz.prog 61 #[v, .int .i64 i, .string (bstr who)] w fun e w' => e = .returned (.bool (inB l i who)) ∧ Below w.heap.size w w' := by
  obtain ⟨A, c, rfl, hl, hc, _⟩ := Rp.sl_open h0
  unfold maxLen at hc
  have hlen := hg.len
  have H0 := Lib.hid h0
  have HG := Lib.hid hg
  obtain ⟨ad, cc, Ap, cp, At, ct, e1, hadb, c0, c1, c2, hz, hp, ht⟩ := team_at h0 hi
  injection e1 with e1 _ e2
  subst e1 e2
  have hiI : (i : Int) < (l.length : Int) := by omega
  have hi0 : (0 : Int) ≤ (i : Int) := by omega
  have HP := Lib.hid hp
  have HI : Hid (InT l i who ↔ who ∈ l[i].people ∨ ∃ j, Reach l i j ∧ who ∈ (l.getD j default).people) := Lib.hid (by unfold InT; rw [getD_at _ _ hi])
  clear h0 hg hp ht hz hadb
  generalize l[i].people = ps at *
  go_enter Tryz.func61, Tryz.ntmps61
  go_wp2_with fail
  refine (containsN_any _ ps who w _ HP.out).mono ?_
  rintro e w1 ⟨rfl, rfl⟩
  by_cases hq : who ∈ ps
  · have HF : Hid (inB l i who = true) := Lib.hid (inB_yes (HI.out.2 (.inl hq)))
    rw [decide_eq_true hq]
    clear hq HI
    go_wp2_with fail
    go_ret
    exact ⟨by rw [HF.out]; rfl, Below.refl _ _⟩
  have HI2 : Hid (InT l i who ↔ ∃ j, Reach l i j ∧ who ∈ (l.getD j default).people) := Lib.hid ⟨fun h => (HI.out.1 h).resolve_left hq, fun h => HI.out.2 (.inr h)⟩
  rw [decide_eq_false hq]
  clear hq HI c0 c1 c2
  go_wp2_with fail
  refine (under_any _ l i w1 H0.out HG.out hi).mono ?_
  rintro e w5 ⟨g, cur, rfl, hgl, hblk, hcl, hre, hb5⟩
  have HB5 := Lib.hid hb5
  have HBK := Lib.hid hblk
  have HRE := Lib.hid hre
  have HCL := Lib.hid hcl
  clear hgl hblk hcl hre hb5
  go_wp2_with fail
  go_loop [20] (fun i => ∃ k : Nat, k ≤ l.length ∧ i = .int .i64 k ∧ Hid (∀ j, j < k → cur.getD j false = true → who ∉ (l.getD j default).people)) (fun i => l.length - (intOf i).toNat)
  case atStart => exact ⟨0, by omega, rfl, fun j hj => absurd hj (by omega)⟩
  case round =>
    obtain ⟨k, hk, rfl, HS⟩ := hrel
    by_cases hlt : k < l.length
    · have b0 : w5.cell? ⟨g, k, none⟩ = some (.bool (cur.getD k false)) := bools_at HBK.out (by rw [HCL.out]; exact hlt)
      obtain ⟨ad', c', Ap', cp', At', ct', e1, hadb', c0, c1, c2, _, hp', _⟩ := team_at (Rp.below _ H0.out HB5.out) hlt
      cases e1
      have HP' := Lib.hid hp'
      have HGD : Hid ((l.getD k default).people = l[k].people) := Lib.hid (by rw [getD_at _ _ hlt])
      clear hp' hadb'
      generalize l[k].people = qs at *
      cases hb : cur.getD k false with
      | false =>
        have F5 : Hid (∀ j, j < k + 1 → cur.getD j false = true → who ∉ (l.getD j default).people) := Lib.hid (fun j hj hj2 => by
          by_cases e : j = k
          · subst e; rw [hb] at hj2; cases hj2
          · exact HS.out j (by omega) hj2)
        rw [hb] at b0
        clear hb
        go_wp2_with fail
        go_round
        case rel => first | exact ⟨k + 1, by omega, by go_num, F5⟩ | (repeat (apply Exists.intro); (refine And.intro ?_ ?_; rotate_left; (repeat' (first | exact rfl | apply And.intro)); exact ⟨k + 1, by omega, by go_num, F5⟩))
        case measure => simp [intOf]; omega
      | true =>
        have HR : Hid (Reach l i k) := Lib.hid ((HRE.out k).1 hb)
        rw [hb] at b0
        clear hb
        go_wp2_with fail
        refine (containsN_any _ qs who w5 _ HP'.out).mono ?_
        rintro e w6 ⟨rfl, rfl⟩
        by_cases hq : who ∈ qs
        · have HF : Hid (inB l i who = true) := Lib.hid (inB_yes (HI2.out.2 ⟨k, HR.out, by rw [HGD.out]; exact hq⟩))
          rw [decide_eq_true hq]
          clear hq
          go_wp2_with fail
          go_ret
          exact ⟨by rw [HF.out]; rfl, HB5.out⟩
        · have F5 : Hid (∀ j, j < k + 1 → cur.getD j false = true → who ∉ (l.getD j default).people) := Lib.hid (fun j hj hj2 => by
            by_cases e : j = k
            · subst e; rw [HGD.out]; exact hq
            · exact HS.out j (by omega) hj2)
          rw [decide_eq_false hq]
          clear hq
          go_wp2_with fail
          go_round
          case rel => first | exact ⟨k + 1, by omega, by go_num, F5⟩ | (repeat (apply Exists.intro); (refine And.intro ?_ ?_; rotate_left; (repeat' (first | exact rfl | apply And.intro)); exact ⟨k + 1, by omega, by go_num, F5⟩))
          case measure => simp [intOf]; omega
    · obtain rfl : k = l.length := by omega
      have HF : Hid (inB l i who = false) := Lib.hid (inB_no (fun h => by
        obtain ⟨j, hr, hj⟩ := HI2.out.1 h
        exact HS.out j (reach_lt hr) ((HRE.out j).2 hr) hj))
      go_wp2_with fail
      go_ret
      exact ⟨by rw [HF.out]; rfl, HB5.out⟩
noncomputable def tofF (l : List Team) (who : List UInt8) : Int := if teamsFault l ≠ 0 then teamsFault l else if isNm who = false then 5 else 0
noncomputable def tofV (l : List Team) (who : List UInt8) : List (List UInt8) := if tofF l who = 0 then teamsOf l who l.length else []
def TofPost (l : List Team) (who : List UInt8) (w : World) (e : Ending) (w' : World) : Prop :=
  ∃ v, e = .returned (.tuple #[v, .int .i64 (tofF l who)]) ∧ (Rp.sl Rp.str).ok w' (· < w'.heap.size) [v] ((tofV l who).map bstr) ∧ Below w.heap.size w w'
theorem tof_bad {l : List Team} {who : List UInt8} {w w' : World} {f : Int} (hf : tofF l who = f) (hn : f ≠ 0) (hb : Below w.heap.size w w') : TofPost l who w (.returned (.tuple #[.slice none 0 0, .int .i64 f])) w' :=
  ⟨_, by rw [hf], by rw [tofV, if_neg (by rw [hf]; exact hn)]; exact Rp.sl_nil _ _ _, hb⟩
theorem str_info : (Tryz.prog.info? 9).map (fun i => (i.zero, i.size, i.bytes)) = some (some (.string ⟨#[]⟩), 1, 16) := by kernel_rfl
theorem names_len {w : World} {S : Nat → Prop} {v : Value} {l : List Team} (h : (Rp.sl teamRp).ok w S [v] l) : ∀ t ∈ l, t.name.length ≤ maxLen := by
  intro t ht
  obtain ⟨k, hk, rfl⟩ := List.mem_iff_getElem.1 ht
  obtain ⟨_, _, _, _, _, _, _, _, _, _, _, hz, _⟩ := team_at h hk
  exact hz
theorem teamsOf_name {l : List Team} {who : List UInt8} (h : ∀ t ∈ l, t.name.length ≤ maxLen) : ∀ n, n ≤ l.length → ∀ s ∈ teamsOf l who n, s.length ≤ maxLen
  | 0, _, s, hs => absurd hs (by simp [teamsOf])
  | n + 1, hn, s, hs => by
    have ih := teamsOf_name (who := who) h n (by omega)
    rw [teamsOf] at hs
    split at hs
    · rcases List.mem_append.1 hs with h1 | h1
      · exact ih s h1
      · rw [List.mem_singleton.1 h1, getD_at _ _ (show n < l.length by omega)]
        exact h _ (List.getElem_mem _)
    · exact ih s hs
end Go.Proofs.YtdljgjlkfihjdaaGreatDoor
