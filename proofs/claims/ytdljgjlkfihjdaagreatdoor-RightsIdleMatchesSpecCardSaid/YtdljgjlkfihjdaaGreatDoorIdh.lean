/-
  'Idle' of the reference of chapter 10.
-/
import Derived.Test.YtdljgjlkfihjdaaGreatDoorIdt
import Derived.Test.YtdljgjlkfihjdaaGreatDoorCnt2
namespace Go.Proofs.YtdljgjlkfihjdaaGreatDoor
open Go.RowKit
set_option linter.unusedVariables false
set_option linter.unusedSimpArgs false

theorem rgs_ids {t : List Team} {l : List Rgt} (h : rgsFault t l = 0) {i j : Nat} (hi : i < l.length) (hj : j < l.length) (hij : i < j) : l[i].id ≠ l[j].id := by
  unfold rgsFault at h
  split at h
  · cases h
  have hf := firstF_all h j hj
  unfold rgsF at hf
  rw [getD_at _ _ hj] at hf
  split at hf
  · cases hf
  split at hf
  · cases hf
  rename_i hn
  intro e
  exact hn (List.mem_map.2 ⟨l[i], List.mem_iff_getElem.2 ⟨i, by rw [List.length_take]; omega, by rw [List.getElem_take]⟩, e⟩)
theorem rgs_uniq {t : List Team} {l : List Rgt} (h : rgsFault t l = 0) {k : Nat} (hk : k < l.length) : ∀ x ∈ l, x.id = l[k].id → x = l[k] := by
  intro x hx e
  obtain ⟨j, hj, rfl⟩ := List.mem_iff_getElem.1 hx
  rcases Nat.lt_trichotomy j k with h1 | rfl | h1
  · exact absurd e (rgs_ids h hj hk h1)
  · rfl
  · exact absurd e.symm (rgs_ids h hk hj h1)
theorem rights_rgs {t : List Team} {l : List Rgt} (h : rightsFault t l = 0) : rgsFault t l = 0 := by
  unfold rightsFault at h
  split at h
  · rename_i h1; exact absurd h h1
  · exact h
set_option maxRecDepth 100000 in
set_option maxHeartbeats 4000000 in
theorem hIdleTop_any (vt : Value) (t : List Team) (v : Value) (l : List Rgt) (w : World) (ht : (Rp.sl teamRp).ok w (· < w.heap.size) [vt] t) (h0 : (Rp.sl rgtRp).ok w (· < w.heap.size) [v] l) :
    Calls Tryz.prog 5 #[vt, v] w (IdlePost t l w) := by
  obtain ⟨A, c, rfl, hlc, hc, _⟩ := Rp.sl_open h0
  unfold maxLen at hc
  have HCK := Lib.hid (hCheckRights_any vt t _ l w ht h0)
  have HI := Lib.hid h0
  clear ht h0
  go_enter Tryz.func5, Tryz.ntmps5
  go_wp2_with fail
  refine HCK.out.mono ?_
  rintro e w1 ⟨rfl, hb⟩
  have HB1 := Lib.hid hb
  have H0 := Lib.hid (Rp.ext _ HI.out hb)
  clear hb HI HCK
  by_cases hf : rightsFault t l = 0
  case neg =>
    have HPF : Hid (idleOut t l = []) := Lib.hid (if_neg hf)
    have HFE : Hid (IdlePost t l w (.returned (.tuple #[.slice none 0 0, .int .i64 (rightsFault t l)])) w1) := Lib.hid ⟨_, rfl, by rw [HPF.out]; exact Rp.sl_nil _ _ _, HB1.out⟩
    generalize rightsFault t l = f at *
    go_wp2_with fail
    go_ret2
    exact HFE.out
  have hg := (rights_good hf).2.2
  have hl := hg.len
  have HG : Hid (∀ x ∈ l, rgF x = 0) := Lib.hid (fun x hx => by
    obtain ⟨j, hj, rfl⟩ := List.mem_iff_getElem.1 hx
    exact hg.each j hj)
  have HU : Hid (∀ k (hk : k < l.length), ∀ x ∈ l, x.id = l[k].id → x = l[k]) := Lib.hid (fun k hk => rgs_uniq (rights_rgs hf) hk)
  have HF1 : Hid (idleOut t l = idleIx l l.length) := Lib.hid (if_pos hf)
  have HF0 := Lib.hid hf
  have HI0 := Lib.hid (World.ownsRow_nil w1 w1.heap.size 3 1)
  rw [hf]
  clear hf hg
  go_wp2_with fail
  go_loopw [7, 17] (fun vo vi wr => ∃ k : Nat, k ≤ l.length ∧ vi = .int .i64 k ∧ Hid (wr.ownsRow w1.heap.size 3 1 vo (idleIx l k).length ((idleIx l k).map (.int .i64))) ∧ Hid (Below w1.heap.size w1 wr)) (fun _ vi _ => l.length - (intOf vi).toNat)
  case atStart => exact ⟨0, by omega, rfl, HI0, Below.refl _ _⟩
  case round =>
    clear HI0
    obtain ⟨k, hk, rfl, HO, HB⟩ := hrel
    obtain ⟨Ao, co, hvo, hco1, hco2, _⟩ := own_form HO.out
    subst hvo
    have hsl := idleIx_len l k
    by_cases hlt : k < l.length
    · have HSY : Hid (idleB l l[k] = true → idleIx l (k + 1) = idleIx l k ++ [(k : Int)]) := Lib.hid (fun h => by rw [idleIx, getD_at _ _ hlt, if_pos h])
      have HSN : Hid (idleB l l[k] = false → idleIx l (k + 1) = idleIx l k) := Lib.hid (fun h => by rw [idleIx, getD_at _ _ hlt, if_neg (by rw [h]; decide)])
      have HCT := Lib.hid (counts_any _ l k l[k] wr (Rp.ext _ H0.out HB.out) hl hlt rfl HG.out (HU.out k hlt))
      have hmL : (k : Int) < (l.length : Int) := by omega
      generalize idleIx l k = E at *
      generalize idleB l l[k] = b at *
      go_wp2_with fail
      refine HCT.out.mono ?_
      rintro e wz ⟨rfl, hbz⟩
      have HOZ := Lib.hid (own_below HO.out hbz)
      have HBZ := Lib.hid (ext_trans HB.out hbz)
      clear hbz HCT HO HB
      cases b with
      | true =>
        have HSX := Lib.hid (HSY.out rfl)
        clear HSY HSN
        go_wp2_with (at_builtin; go_must (refine app_new (w := wz) rfl (.tmp 24) (.tmp 26) 26 rfl 3 (.int .i64 0) 1 8 Tryz.underlying26 int_info rfl (by decide) (m := 1) [.int .i64 (k : Int)] HOZ.out HBZ.out.size rfl rfl rfl (by decide) (by simp [Value.oneCell']) (by unfold maxLen; omega) (by omega) ?_); intro g8 c8' w8 HO8 HG8 HE8 HL8)
        have HB8 := Lib.hid (HE8.out _ HBZ.out)
        go_roundw
        case rel => first | exact ⟨k + 1, by omega, by go_num, Lib.hid (by rw [HSX.out, List.length_append, List.map_append]; exact HO8.out), HB8⟩ | (repeat (apply Exists.intro); (refine And.intro ?_ ?_; rotate_left; (repeat' (first | exact rfl | apply And.intro)); exact ⟨k + 1, by omega, by go_num, Lib.hid (by rw [HSX.out, List.length_append, List.map_append]; exact HO8.out), HB8⟩))
        case measure => simp [intOf]; omega
      | false =>
        have HSX := Lib.hid (HSN.out rfl)
        clear HSY HSN
        go_wp2_with fail
        go_roundw
        case rel => first | exact ⟨k + 1, by omega, by go_num, Lib.hid (by rw [HSX.out]; exact HOZ.out), HBZ⟩ | (repeat (apply Exists.intro); (refine And.intro ?_ ?_; rotate_left; (repeat' (first | exact rfl | apply And.intro)); exact ⟨k + 1, by omega, by go_num, Lib.hid (by rw [HSX.out]; exact HOZ.out), HBZ⟩))
        case measure => simp [intOf]; omega
    · obtain rfl : k = l.length := by omega
      go_wp2_with fail
      go_ret2
      have ho := HO.out
      exact ⟨_, by rw [HF0.out]; rfl, by rw [HF1.out]; exact Rp.int_own ho (idleIx_wf l _ (by omega)) (fun g hg => (ho.lt g hg).2), ext_trans HB1.out HB.out⟩
end Go.Proofs.YtdljgjlkfihjdaaGreatDoor
