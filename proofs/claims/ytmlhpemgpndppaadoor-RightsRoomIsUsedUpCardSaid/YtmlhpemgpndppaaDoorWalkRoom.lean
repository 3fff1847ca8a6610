/-
  The law 'RightsRoomIsUsedUp': plain facts; walked: it returns true.
-/
import Derived.Test.YtmlhpemgpndppaaDoorRoom
import Derived.Test.YtmlhpemgpndppaaDoorAwake10
namespace Go.Proofs.YtmlhpemgpndppaaDoor
open Go.RowKit
set_option linter.unusedVariables false
set_option linter.unusedSimpArgs false

section
variable {s : List Shn} {who : List UInt8} {lim win at_ : Int}
theorem room_zero (h : (roomTop s who lim win at_).2 ≠ 0) : (roomTop s who lim win at_).1 = 0 := by
  unfold roomTop at h ⊢
  split
  · rfl
  · rename_i h1
    rw [if_neg h1] at h
    split
    · rfl
    · rename_i h2
      rw [if_neg h2] at h
      split
      · rfl
      · rename_i h3
        rw [if_neg h3] at h
        exact absurd rfl h
theorem room_good (h : (roomTop s who lim win at_).2 = 0) : shownFault s = 0 ∧ isNm who = true ∧ withinB lim 0 3000 = true ∧ withinB win 1 1000000000 = true ∧ withinB at_ 0 253402300799 = true ∧ (roomTop s who lim win at_).1 = max (lim - cntRoom who win at_ s) 0 := by
  unfold roomTop at h ⊢
  split at h
  · rename_i h1; exact absurd h h1
  · rename_i h1
    rw [if_neg h1]
    split at h
    · cases h
    · rename_i h2
      rw [if_neg h2]
      split at h
      · cases h
      · rename_i h3
        rw [if_neg h3]
        have h1' : shownFault s = 0 := Decidable.not_not.1 h1
        refine ⟨h1', by simpa using h2, ?_, ?_, ?_, rfl⟩
        · cases q : withinB lim 0 3000 with | true => rfl | false => exact absurd (.inl q) h3
        · cases q : withinB win 1 1000000000 with | true => rfl | false => exact absurd (.inr (.inl q)) h3
        · cases q : withinB at_ 0 253402300799 with | true => rfl | false => exact absurd (.inr (.inr q)) h3
theorem shown_len (h : shownFault s = 0) : s.length ≤ 3000 := by
  unfold shownFault at h
  split at h
  · cases h
  · omega
theorem room_range (h : (roomTop s who lim win at_).2 = 0) : 0 ≤ (roomTop s who lim win at_).1 ∧ (roomTop s who lim win at_).1 ≤ 3000 := by
  obtain ⟨_, _, h3, _, _, h6⟩ := room_good h
  have h3 : 0 ≤ lim ∧ lim ≤ 3000 := of_decide_eq_true h3
  rw [h6]
  omega
theorem shnF_app (x : Shn) {i : Nat} (hi : i < s.length) : shnF (s ++ [x]) i = shnF s i := by
  unfold shnF
  rw [getD_at (s ++ [x]) _ (show i < (s ++ [x]).length by simp; omega), getD_at (s ++ [x]) _ (show i - 1 < (s ++ [x]).length by simp; omega), getD_at s _ hi, getD_at s _ (show i - 1 < s.length by omega),
    List.getElem_append_left hi, List.getElem_append_left (show i - 1 < s.length by omega)]
theorem new_fine (hw : isNm who = true) (ha : withinB at_ 0 253402300799 = true) : shn1F ⟨at_, who, false, [97], 0⟩ = 0 := by
  unfold shn1F
  have h1 : 0 ≤ at_ := (of_decide_eq_true ha : 0 ≤ at_ ∧ at_ ≤ 253402300799).1
  rw [if_neg (by rw [ha]; decide), if_neg (fun e => by rw [hw] at e; exact absurd e.2 (by decide)), if_neg (show ¬ capF ⟨[97], 0⟩ ≠ 0 by decide), if_neg (by show ¬ at_ < 0; omega)]
theorem more_fault (h0 : shownFault s = 0) (hw : isNm who = true) (ha : withinB at_ 0 253402300799 = true) : shownFault (s ++ [⟨at_, who, false, [97], 0⟩]) = 0 ∨ shownFault (s ++ [⟨at_, who, false, [97], 0⟩]) = 8 ∨ shownFault (s ++ [⟨at_, who, false, [97], 0⟩]) = 2 := by
  have hl := shown_len h0
  have h0' : firstF (shnF s) s.length = 0 := by
    unfold shownFault at h0
    rwa [if_neg (by omega)] at h0
  have hall := firstF_all h0'
  generalize hx : (⟨at_, who, false, [97], 0⟩ : Shn) = x
  have hx1 : shn1F x = 0 := by rw [← hx]; exact new_fine hw ha
  by_cases h3 : 3000 < (s ++ [x]).length
  · right; right; exact if_pos h3
  have hln : (s ++ [x]).length = s.length + 1 := by simp
  have hprev : ∀ j, j < s.length → shnF (s ++ [x]) j = 0 := fun j hj => by rw [shnF_app x hj]; exact hall j hj
  have hlast : shnF (s ++ [x]) s.length = 0 ∨ shnF (s ++ [x]) s.length = 8 := by
    have hat : (s ++ [x])[s.length]'(by omega) = x := by simp
    unfold shnF
    rw [getD_at (s ++ [x]) _ (show s.length < (s ++ [x]).length by omega), hat, if_neg (by rw [hx1]; decide)]
    split
    · exact .inr rfl
    · exact .inl rfl
  rw [shownFault, if_neg h3, hln, firstF, if_pos (firstF_ok hprev)]
  rcases hlast with h | h
  · exact .inl h
  · exact .inr (.inl h)
theorem more_law (h : (roomTop s who lim win at_).2 = 0) :
    ((roomTop (s ++ [⟨at_, who, false, [97], 0⟩]) who lim win at_).2 = 8 ∨ (roomTop (s ++ [⟨at_, who, false, [97], 0⟩]) who lim win at_).2 = 2) ∨
    ((roomTop (s ++ [⟨at_, who, false, [97], 0⟩]) who lim win at_).2 = 0 ∧ (roomTop (s ++ [⟨at_, who, false, [97], 0⟩]) who lim win at_).1 = max 0 ((roomTop s who lim win at_).1 - 1)) := by
  obtain ⟨h1, h2, h3, h4, h5, h6⟩ := room_good h
  rcases more_fault h1 h2 h5 with e | e | e
  · right
    have hw : 1 ≤ win := (of_decide_eq_true h4 : 1 ≤ win ∧ win ≤ 1000000000).1
    have hin : inRoom who win at_ ⟨at_, who, false, [97], 0⟩ = true := by
      unfold inRoom
      rw [decide_eq_true rfl, decide_eq_true (by show at_ - win < at_; omega), decide_eq_true (by show at_ ≤ at_; omega)]; rfl
    have hc : cntRoom who win at_ (s ++ [⟨at_, who, false, [97], 0⟩]) = cntRoom who win at_ s + 1 := by
      unfold cntRoom
      rw [List.filter_append, List.length_append, List.filter_cons, if_pos hin]; rfl
    have hr : roomTop (s ++ [⟨at_, who, false, [97], 0⟩]) who lim win at_ = (max (lim - (cntRoom who win at_ s + 1 : Nat)) 0, 0) := by
      rw [roomTop, if_neg (fun x => x e), if_neg (by rw [h2]; decide), if_neg (by rw [h3, h4, h5]; decide), hc]
    rw [hr, h6]
    refine ⟨rfl, ?_⟩
    show max (lim - ((cntRoom who win at_ s + 1 : Nat) : Int)) 0 = max 0 (max (lim - (cntRoom who win at_ s : Int)) 0 - 1)
    omega
  · left; left
    rw [roomTop, if_pos (by rw [e]; decide)]; exact e
  · left; right
    rw [roomTop, if_pos (by rw [e]; decide)]; exact e
end
set_option maxRecDepth 100000 in
set_option maxHeartbeats 4000000 in
theorem roomLaw_any (v0 : Value) (s : List Shn) (v1 : Value) (who0 : ByteArray) (v2 : Value) (lim : Int) (v3 : Value) (win : Int) (v4 : Value) (at_ : Int) (w : World) (h0 : (Rp.sl shnRp).ok w (· < w.heap.size) [v0] s) (f0 : (Rp.sl shnRp).fits s)
    (h1 : Rp.str.ok w (· < w.heap.size) [v1] who0) (f1 : Rp.str.fits who0) (h2 : (Rp.int .i64).ok w (· < w.heap.size) [v2] lim) (f2 : (Rp.int .i64).fits lim) (h3 : (Rp.int .i64).ok w (· < w.heap.size) [v3] win) (f3 : (Rp.int .i64).fits win) (h4 : (Rp.int .i64).ok w (· < w.heap.size) [v4] at_) (f4 : (Rp.int .i64).fits at_) :
    Calls Tryd.prog 6 #[v0, v1, v2, v3, v4] w fun e w' => e = .returned (.bool true) ∧ Below w.heap.size w w' := by
  obtain ⟨e1, hw1⟩ := h1
  injection e1 with e1
  subst e1
  obtain ⟨e2, _⟩ := h2
  injection e2 with e2
  subst e2
  obtain ⟨e3, _⟩ := h3
  injection e3 with e3
  subst e3
  obtain ⟨e4, hwf4⟩ := h4
  injection e4 with e4
  subst e4
  obtain ⟨who, rfl⟩ : ∃ who, who0 = bstr who := ⟨who0.data.toList, (bstr_eq who0).symm⟩
  have hwm : who.length ≤ maxLen := hw1
  have hw : who.length ≤ 9223372036854775807 := by unfold maxLen at hwm; omega
  clear hw1 f0 f1 f2 f3 f4
  have H0 := Lib.hid h0
  have HOK : Hid (∀ x ∈ s, ShnOk x) := Lib.hid (fun x hx => by
    obtain ⟨k, hk, rfl⟩ := List.mem_iff_getElem.1 hx
    obtain ⟨_, _, _, _, _, _, _, _, _, hz⟩ := shn_at H0.out hk
    exact hz)
  have HOKX : Hid (ShnOk ⟨at_, who, false, [97], 0⟩) := Lib.hid ⟨hwf4, hwm, by show (1 : Nat) ≤ maxLen; unfold maxLen; omega, show (Lit.int .i64 0).wf = true by decide⟩
  clear h0 hwf4 hwm
  go_enter Tryd.func6, Tryd.ntmps6
  go_wp2_with fail
  refine (room_any v0 s who lim win at_ w H0.out hw).mono ?_
  rintro e w1 ⟨rfl, hb⟩
  have HB1 := Lib.hid hb
  have H1 := Lib.hid (Rp.ext _ H0.out hb)
  clear hb H0
  by_cases hf : (roomTop s who lim win at_).2 = 0
  case neg =>
    have hz := room_zero hf
    have hb : ((roomTop s who lim win at_).2 != 0) = true := by simpa using hf
    rw [hz]
    clear hf hz
    go_wp2_with fail
    refine (awake_any _).mono ?_
    rintro e w2 ⟨rfl, hb2⟩
    have HB2 := Lib.hid (HB1.out.trans (hb2.mono HB1.out.size))
    clear hb2
    go_wp2_with fail
    go_ret
    exact ⟨rfl, HB2.out⟩
  have hlen := shown_len (room_good hf).1
  obtain ⟨hn0, hn1⟩ := room_range hf
  have HM := Lib.hid (more_law hf)
  rw [hf]
  clear hf
  generalize (roomTop s who lim win at_).1 = n at *
  go_wp2_with fail
  refine (cloneShn_any v0 s _ H1.out hlen).mono ?_
  rintro e w2 ⟨v, rfl, ho, hb⟩
  have HB2 := Lib.hid hb
  have HO := Lib.hid ho
  clear hb ho H1
  go_wp2_with (at_builtin; go_must (refine app_new (w := w2) rfl (.tmp 32) (.tmp 36) 45 rfl 50 (.agg #[.int .i64 0, .string ⟨#[]⟩, .bool false, .string ⟨#[]⟩, .int .i64 0]) 5 56 Tryd.underlying45 shn_info rfl (by decide) (m := 1) [.int .i64 at_, .string (bstr who), .bool false, .string ⟨#[97]⟩, .int .i64 0] HO.out (by have := HB2.out.size; omega) rfl rfl rfl (by decide) (by simp [Value.oneCell']) (by unfold maxLen; omega) (by omega) ?_); intro g1 cc1 w3 HO1 HG1 HB3 HL1)
  have H3 : Hid ((Rp.sl shnRp).ok w3 (· < w3.heap.size) [.slice (some ⟨g1, 0, none⟩) (s.length + 1) cc1] (s ++ [⟨at_, who, false, [97], 0⟩])) := Lib.hid (by
    refine shns_read (B := w1.heap.size) (n := s.length + 1) ?_ (fun x hx => ?_)
    · rw [List.flatMap_append]; exact HO1.out
    · rcases List.mem_append.1 hx with hx | hx
      · exact HOK.out x hx
      · rw [List.mem_singleton.1 hx]; exact HOKX.out)
  have HB4 := Lib.hid (HB1.out.trans ((HB3.out _ HB2.out).mono HB1.out.size))
  clear HO HO1 HG1 HB3 HL1 HB2 HB1 HOK HOKX
  refine (room_any _ _ who lim win at_ w3 H3.out hw).mono ?_
  rintro e w4 ⟨rfl, hb⟩
  have HB5 := Lib.hid (HB4.out.trans (hb.mono HB4.out.size))
  clear hb H3 HB4
  generalize roomTop (s ++ [⟨at_, who, false, [97], 0⟩]) who lim win at_ = r at *
  obtain ⟨m, f⟩ := r
  dsimp only at HM ⊢
  rcases HM.out with (rfl | rfl) | ⟨rfl, hm⟩
  · clear HM
    go_wp2_with fail
    refine (awake_any _).mono ?_
    rintro e w2 ⟨rfl, hb2⟩
    have HB6 := Lib.hid (HB5.out.trans (hb2.mono HB5.out.size))
    clear hb2
    go_wp2_with fail
    go_ret
    exact ⟨rfl, HB6.out⟩
  · clear HM
    go_wp2_with fail
    refine (awake_any _).mono ?_
    rintro e w2 ⟨rfl, hb2⟩
    have HB6 := Lib.hid (HB5.out.trans (hb2.mono HB5.out.size))
    clear hb2
    go_wp2_with fail
    go_ret
    exact ⟨rfl, HB6.out⟩
  · have hb : (m == max 0 (n - 1)) = true := by rw [hm]; exact beq_self_eq_true _
    clear HM hm
    go_wp2_with fail
    refine (awake_any _).mono ?_
    rintro e w2 ⟨rfl, hb2⟩
    have HB6 := Lib.hid (HB5.out.trans (hb2.mono HB5.out.size))
    clear hb2
    go_wp2_with fail
    go_ret
    exact ⟨rfl, HB6.out⟩
end Go.Proofs.YtmlhpemgpndppaaDoor
