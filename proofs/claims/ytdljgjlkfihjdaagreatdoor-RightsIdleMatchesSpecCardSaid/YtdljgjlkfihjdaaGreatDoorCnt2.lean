/-
  'counts' of the reference of chapter 10.
-/
import Derived.Test.YtdljgjlkfihjdaaGreatDoorTimes
import Derived.Test.YtdljgjlkfihjdaaGreatDoorRightOf
import Derived.Test.YtdljgjlkfihjdaaGreatDoorCloneR
import Derived.Deep.RegionHeld
namespace Go.Proofs.YtdljgjlkfihjdaaGreatDoor
open Go.RowKit
set_option linter.unusedVariables false
set_option linter.unusedSimpArgs false

theorem keys_pre {r : Rgt} {k : List UInt8} (h : k ∈ keysL r) : preB k r.pre = true := by
  unfold keysL at h
  split at h
  · rename_i e; rw [e]; exact pre_nil _
  · rw [List.mem_singleton] at h; subst h; rw [pre_take]; simp
set_option maxRecDepth 100000 in
set_option maxHeartbeats 16000000 in
theorem counts_any (v : Value) (l : List Rgt) (i : Nat) (r : Rgt) (w : World) (h : (Rp.sl rgtRp).ok w (· < w.heap.size) [v] l) (hl : l.length ≤ 300) (hi : i < l.length) (hri : l[i] = r) (hg : ∀ x ∈ l, rgF x = 0) (hid : ∀ x ∈ l, x.id = r.id → x = r) :
    Calls Tryz.prog 14 #[v, .int .i64 (i : Int)] w fun e w' => e = .returned (.bool (!idleB l r)) ∧ Below w.heap.size w w' := by
  obtain ⟨ad, c, e1, hadb, c0, c1, c2, c3, c4, c5, c6, c7, c8, hz⟩ := rgt_at h hi
  subst e1
  obtain ⟨_, _, e1, hlc, hc, _⟩ := Rp.sl_open h
  cases e1
  unfold maxLen at hc
  rw [hri] at c0 c1 c2 c3 c4 c5 c6 c7 c8 hz
  have HRI := Lib.hid hri
  have HRL : Hid (r ∈ l) := Lib.hid (by rw [← hri]; exact List.getElem_mem hi)
  have HLG := Lib.hid hg
  have HID := Lib.hid hid
  have HLB : Hid (∀ x ∈ l, RBd x) := Lib.hid (fun x hx => rg_bd (hg x hx))
  have HBR : Hid (0 ≤ r.frm ∧ 0 ≤ fromI r ∧ r.to ≤ 253402300800 ∧ r.en ≤ 253402300800) := Lib.hid (by
    have hb := HLB.out r HRL.out
    have h1 := hb.frm
    have h2 := hb.to
    have h3 := hb.en
    have h4 := hb.st
    unfold fromI
    omega)
  have HRK : Hid (∀ x ∈ l, RgtOk x) := Lib.hid (fun x hx => by
    obtain ⟨j, hj, rfl⟩ := List.mem_iff_getElem.1 hx
    obtain ⟨_, _, _, _, _, _, _, _, _, _, _, _, _, hz⟩ := rgt_at h hj
    exact hz)
  have hiL : (i : Int) < (l.length : Int) := by omega
  have HKC := Lib.hid (keysOf_any r w hz.2.1)
  have HLW := Lib.hid h
  clear h hri hg hid hz hadb
  go_enter Tryz.func14, Tryz.ntmps14
  go_wp2_with fail
  refine HKC.out.mono ?_
  rintro e w1 ⟨vk, rfl, hks, hb⟩
  have HB1 := Lib.hid hb
  have HKS := Lib.hid hks
  have HL0 := Lib.hid (Rp.ext _ HLW.out hb)
  obtain ⟨AK, cK, rfl, hlK, hcK, _⟩ := Rp.sl_open hks
  unfold maxLen at hcK
  rw [List.length_map] at *
  clear hks hb HKC HLW c0 c1 c2 c3 c4 c5 c6 c7 c8
  go_wp2_with fail
  go_loopw [21] (fun vi wr => ∃ k : Nat, k ≤ (keysL r).length ∧ vi = .int .i64 k ∧ Hid (Below w1.heap.size w1 wr) ∧ Hid (∀ j (h : j < (keysL r).length), j < k → Cov r (beforeK l r (keysL r)[j]))) (fun vi _ => (keysL r).length - (intOf vi).toNat)
  case atStart => exact ⟨0, by omega, rfl, Below.refl _ _, Lib.hid (fun j _ hj => absurd hj (by omega))⟩
  case round =>
    obtain ⟨k, hk, rfl, HBk0, HCK⟩ := hrel
    obtain ⟨wB, hwB⟩ : ∃ wB, wB = wr := ⟨_, rfl⟩
    subst hwB
    have HBF0 := Lib.hid (ext_trans HB1.out HBk0.out)
    by_cases hlt : k < (keysL r).length
    · have hlt' : k < ((keysL r).map bstr).length := by rw [List.length_map]; exact hlt
      obtain ⟨adK, uK, e1, _, hu, hcK⟩ := Rp.sl_at1 rfl (Rp.ext _ HKS.out HBk0.out) hlt'
      cases e1
      obtain ⟨e1, hzk⟩ := hu
      injection e1 with e1
      subst e1
      rw [List.getElem_map] at hcK hzk
      have hmK : (k : Int) < ((keysL r).length : Int) := by omega
      have HKM := Lib.hid (List.getElem_mem hlt)
      have HKP := Lib.hid (keys_pre (List.getElem_mem hlt))
      have HCN : Hid (Cov r (beforeK l r (keysL r)[k]) → ∀ j (h : j < (keysL r).length), j < k + 1 → Cov r (beforeK l r (keysL r)[j])) := Lib.hid (fun h j hj hjk => by
        by_cases e : j = k
        · subst e; exact h
        · exact HCK.out j hj (by omega))
      have hkl : (keysL r)[k].length ≤ 9223372036854775807 := hzk
      have HL1 := Lib.hid (Rp.ext _ HL0.out HBk0.out)
      generalize (keysL r)[k] = key at *
      clear HCK hzk
      go_wp2_with fail
      clear hcK
      go_loopw [7, 27] (fun vo vi wr => ∃ m : Nat, m ≤ l.length ∧ vi = .int .i64 m ∧ Hid (wr.ownsRow wB.heap.size 38 9 vo (nearK (l.take m) key).length ((nearK (l.take m) key).flatMap rgtCells)) ∧ Hid (Below wB.heap.size wB wr)) (fun _ vi _ => l.length - (intOf vi).toNat)
      case atStart => exact ⟨0, by omega, rfl, World.ownsRow_nil _ _ _ _, Below.refl _ _⟩
      case round =>
        obtain ⟨m, hm, rfl, HO, HB⟩ := hrel
        obtain ⟨Ao, co, hvo, hco1, hco2, _⟩ := own_form HO.out
        subst hvo
        have hsl : (nearK (l.take m) key).length ≤ m := by
          unfold nearK
          exact Nat.le_trans (List.length_filter_le _ _) (by rw [List.length_take]; omega)
        by_cases hlm : m < l.length
        · obtain ⟨ad, c', e1, hadb, c0, c1, c2, c3, c4, c5, c6, c7, c8, hz⟩ := rgt_at (Rp.ext _ HL1.out HB.out) hlm
          cases e1
          have HS := Lib.hid (nearK_take (k := key) hlm)
          generalize l[m] = x at *
          generalize nearK (l.take m) key = E at *
          have hal := (Below.refl wr.heap.size wr).alloc (Nat.le_refl _) (.cells #[.string (bstr x.id), .string (bstr x.pre), .int .i64 x.frm, .int .i64 x.to, .int .i64 x.st, .int .i64 x.en, .int .i64 x.made, .int .i64 x.kind, .string (bstr x.team)] 38)
          have HB4 := Lib.hid (ext_trans HB.out hal)
          have HO4 := Lib.hid (own_below HO.out hal)
          have HX : Hid (Blk (wr.alloc (.cells #[.string (bstr x.id), .string (bstr x.pre), .int .i64 x.frm, .int .i64 x.to, .int .i64 x.st, .int .i64 x.en, .int .i64 x.made, .int .i64 x.kind, .string (bstr x.team)] 38)) wr.heap.size 38 (rgtCells x)) := Lib.hid (Blk.new wr 38 (rgtCells x))
          have hmL : (m : Int) < (l.length : Int) := by omega
          have x0 : (wr.alloc (.cells #[.string (bstr x.id), .string (bstr x.pre), .int .i64 x.frm, .int .i64 x.to, .int .i64 x.st, .int .i64 x.en, .int .i64 x.made, .int .i64 x.kind, .string (bstr x.team)] 38)).cell? ⟨wr.heap.size, 0, none⟩ = some (.string (bstr x.id)) := HX.out.cell 0
          have x1 : (wr.alloc (.cells #[.string (bstr x.id), .string (bstr x.pre), .int .i64 x.frm, .int .i64 x.to, .int .i64 x.st, .int .i64 x.en, .int .i64 x.made, .int .i64 x.kind, .string (bstr x.team)] 38)).cell? ⟨wr.heap.size, 1, none⟩ = some (.string (bstr x.pre)) := HX.out.cell 1
          have x2 : (wr.alloc (.cells #[.string (bstr x.id), .string (bstr x.pre), .int .i64 x.frm, .int .i64 x.to, .int .i64 x.st, .int .i64 x.en, .int .i64 x.made, .int .i64 x.kind, .string (bstr x.team)] 38)).cell? ⟨wr.heap.size, 2, none⟩ = some (.int .i64 x.frm) := HX.out.cell 2
          have x3 : (wr.alloc (.cells #[.string (bstr x.id), .string (bstr x.pre), .int .i64 x.frm, .int .i64 x.to, .int .i64 x.st, .int .i64 x.en, .int .i64 x.made, .int .i64 x.kind, .string (bstr x.team)] 38)).cell? ⟨wr.heap.size, 3, none⟩ = some (.int .i64 x.to) := HX.out.cell 3
          have x4 : (wr.alloc (.cells #[.string (bstr x.id), .string (bstr x.pre), .int .i64 x.frm, .int .i64 x.to, .int .i64 x.st, .int .i64 x.en, .int .i64 x.made, .int .i64 x.kind, .string (bstr x.team)] 38)).cell? ⟨wr.heap.size, 4, none⟩ = some (.int .i64 x.st) := HX.out.cell 4
          have x5 : (wr.alloc (.cells #[.string (bstr x.id), .string (bstr x.pre), .int .i64 x.frm, .int .i64 x.to, .int .i64 x.st, .int .i64 x.en, .int .i64 x.made, .int .i64 x.kind, .string (bstr x.team)] 38)).cell? ⟨wr.heap.size, 5, none⟩ = some (.int .i64 x.en) := HX.out.cell 5
          have x6 : (wr.alloc (.cells #[.string (bstr x.id), .string (bstr x.pre), .int .i64 x.frm, .int .i64 x.to, .int .i64 x.st, .int .i64 x.en, .int .i64 x.made, .int .i64 x.kind, .string (bstr x.team)] 38)).cell? ⟨wr.heap.size, 6, none⟩ = some (.int .i64 x.made) := HX.out.cell 6
          have x7 : (wr.alloc (.cells #[.string (bstr x.id), .string (bstr x.pre), .int .i64 x.frm, .int .i64 x.to, .int .i64 x.st, .int .i64 x.en, .int .i64 x.made, .int .i64 x.kind, .string (bstr x.team)] 38)).cell? ⟨wr.heap.size, 7, none⟩ = some (.int .i64 x.kind) := HX.out.cell 7
          have x8 : (wr.alloc (.cells #[.string (bstr x.id), .string (bstr x.pre), .int .i64 x.frm, .int .i64 x.to, .int .i64 x.st, .int .i64 x.en, .int .i64 x.made, .int .i64 x.kind, .string (bstr x.team)] 38)).cell? ⟨wr.heap.size, 8, none⟩ = some (.string (bstr x.team)) := HX.out.cell 8
          clear hal HO HB hadb
          cases hp : preB key x.pre with
          | false =>
            have HP := Lib.hid hp
            rw [if_neg (by rw [hp]; decide), List.append_nil] at HS
            clear hp
            go_wp2_with fail
            refine (hasPre_any key x.pre _ hkl).mono ?_
            rintro e w7 ⟨rfl, hw⟩
            subst hw
            rw [HP.out]
            go_wp2_with fail
            go_roundw
            case rel => first | exact ⟨m + 1, by omega, by go_num, Lib.hid (by rw [HS.out]; exact HO4.out), HB4⟩ | (repeat (apply Exists.intro); (refine And.intro ?_ ?_; rotate_left; (repeat' (first | exact rfl | apply And.intro)); exact ⟨m + 1, by omega, by go_num, Lib.hid (by rw [HS.out]; exact HO4.out), HB4⟩))
            case measure => simp [intOf]; omega
          | true =>
            have HP := Lib.hid hp
            rw [if_pos hp] at HS
            clear hp
            go_wp2_with fail
            refine (hasPre_any key x.pre _ hkl).mono ?_
            rintro e w7 ⟨rfl, hw⟩
            subst hw
            rw [HP.out]
            go_wp2_with (at_builtin; go_must (refine app_new (w := (wr.alloc (.cells #[.string (bstr x.id), .string (bstr x.pre), .int .i64 x.frm, .int .i64 x.to, .int .i64 x.st, .int .i64 x.en, .int .i64 x.made, .int .i64 x.kind, .string (bstr x.team)] 38))) rfl (.tmp 35) (.tmp 37) 23 rfl 38 (.agg #[.string ⟨#[]⟩, .string ⟨#[]⟩, .int .i64 0, .int .i64 0, .int .i64 0, .int .i64 0, .int .i64 0, .int .i64 0, .string ⟨#[]⟩]) 9 96 Tryz.underlying23 rgt_info rfl (by decide) (m := 1) [.string (bstr x.id), .string (bstr x.pre), .int .i64 x.frm, .int .i64 x.to, .int .i64 x.st, .int .i64 x.en, .int .i64 x.made, .int .i64 x.kind, .string (bstr x.team)] HO4.out HB4.out.size rfl (by first | rfl | (rw [World.size_alloc]; rfl)) rfl (by decide) (by simp [Value.oneCell']) (by unfold maxLen; omega) (by omega) ?_); intro g8 c8' w8 HO8 HG8 HE8 HL8)
            have HB8 := Lib.hid (HE8.out _ HB4.out)
            go_roundw
            case rel => first | exact ⟨m + 1, by omega, by go_num, Lib.hid (by rw [HS.out, List.length_append, List.flatMap_append]; exact HO8.out), HB8⟩ | (repeat (apply Exists.intro); (refine And.intro ?_ ?_; rotate_left; (repeat' (first | exact rfl | apply And.intro)); exact ⟨m + 1, by omega, by go_num, Lib.hid (by rw [HS.out, List.length_append, List.flatMap_append]; exact HO8.out), HB8⟩))
            case measure => simp [intOf]; omega
        · obtain rfl : m = l.length := by omega
          rw [List.take_length] at HO hco1 hsl ⊢
          have HNL : Hid (∀ x ∈ nearK l key, x ∈ l) := Lib.hid (fun x hx => (List.mem_filter.1 hx).1)
          have HrN : Hid (r ∈ nearK l key) := Lib.hid (List.mem_filter.2 ⟨HRL.out, HKP.out⟩)
          have HHI : Hid (∀ T A, Looks (nearK l key) T A → (Hits (nearK l key) key r T A ↔ ¬ Cov r (beforeK l r key))) := Lib.hid (fun T A hla => hits_is hla HrN.out HID.out HBR.out)
          generalize nearK l key = N at *
          have HNR : Hid ((Rp.sl rgtRp).ok wr (· < wr.heap.size) [_] N) := Lib.hid (rgts_read HO.out (fun s hs => HRK.out s (HNL.out s hs)))
          have HNB : Hid (∀ x ∈ N, RBd x) := Lib.hid (fun x hx => HLB.out x (HNL.out x hx))
          have HNG : Hid (∀ k, (h : k < N.length) → rgF N[k] = 0) := Lib.hid (fun k h => HLG.out _ (HNL.out _ (List.getElem_mem h)))
          have HTM := Lib.hid (times_any _ N wr HNR.out (by omega))
          clear HO hco1 hco2
          go_wp2_with fail
          refine HTM.out.mono ?_
          rintro e wS ⟨vts, ts, rfl, hown, hpw, hmem, htl, hbs⟩
          obtain ⟨A0, hA0⟩ : ∃ A, A = Lib.compact (srtI (turL N N.length)) := ⟨_, rfl⟩
          have HA0 : Hid (∀ n, n ∈ A0 ↔ n = 0 ∨ ∃ x ∈ N, n = x.st ∨ n = x.made ∨ n = x.en) := Lib.hid (fun n => by rw [hA0]; exact tur_mem N n)
          have HH := Lib.hid (HHI.out ts A0 ⟨hmem, HA0.out⟩)
          have HTS : Hid ((Rp.sl (Rp.int .i64)).ok wS (· < wS.heap.size) [vts] ts) := Lib.hid (Rp.int_own hown (fun n hn => by
            rcases (hmem n).1 hn with rfl | ⟨x, hx, he⟩
            · exact WalkArith.wf_i64 (by omega)
            · have hb := HNB.out x hx
              have h1 := hb.frm
              have h2 := hb.to
              exact WalkArith.wf_i64 (by omega)) (fun g hg => (hown.lt g hg).2))
          have HNR' := HNR
          clear HNR
          have HNR := Lib.hid (Rp.ext _ HNR'.out hbs)
          have HBW := Lib.hid (ext_trans HBk0.out (ext_trans HB.out hbs))
          have HBW0 := HBW
          have HBF1 := Lib.hid (ext_trans HBF0.out (ext_trans HB.out hbs))
          obtain ⟨A2, cT, rfl, hlT, hcT, _⟩ := Rp.sl_open HTS.out
          unfold maxLen at hcT
          clear hown hpw hmem hbs HTM HHI hA0 HB HNR'
          go_wp2_with fail
          go_loopw [43] (fun vi wr => ∃ p : Nat, p ≤ ts.length ∧ vi = .int .i64 p ∧ Hid (Below wS.heap.size wS wr) ∧ Hid (∀ j (h : j < ts.length), j < p → ts[j] ≤ 253402300799 → ∀ a ∈ A0, a ≤ 253402300799 → ¬ (0 ≤ rightIx N ⟨key, ts[j]⟩ a ∧ (N.getD (rightIx N ⟨key, ts[j]⟩ a).toNat default).id = r.id))) (fun vi _ => ts.length - (intOf vi).toNat)
          case atStart => exact ⟨0, by omega, rfl, Below.refl _ _, Lib.hid (fun j _ hj => absurd hj (by omega))⟩
          case round =>
            obtain ⟨p, hp, rfl, HB, HP⟩ := hrel
            obtain ⟨wP, hwP⟩ : ∃ wP, wP = wr := ⟨_, rfl⟩
            subst hwP
            by_cases hlp : p < ts.length
            · obtain ⟨adT, uT, e1, _, hu, hcT⟩ := Rp.sl_at1 rfl (Rp.ext _ HTS.out HB.out) hlp
              cases e1
              obtain ⟨e1, _⟩ := hu
              injection e1 with e1
              subst e1
              have HPN : Hid ((ts[p] ≤ 253402300799 → ∀ a ∈ A0, a ≤ 253402300799 → ¬ (0 ≤ rightIx N ⟨key, ts[p]⟩ a ∧ (N.getD (rightIx N ⟨key, ts[p]⟩ a).toNat default).id = r.id)) → ∀ j (h : j < ts.length), j < p + 1 → ts[j] ≤ 253402300799 → ∀ a ∈ A0, a ≤ 253402300799 → ¬ (0 ≤ rightIx N ⟨key, ts[j]⟩ a ∧ (N.getD (rightIx N ⟨key, ts[j]⟩ a).toNat default).id = r.id)) := Lib.hid (fun h j hj hjk => by
                by_cases e : j = p
                · subst e; exact h
                · exact HP.out j hj (by omega))
              have HYS : Hid (ts[p] ≤ 253402300799 → ∀ a ∈ A0, a ≤ 253402300799 → 0 ≤ rightIx N ⟨key, ts[p]⟩ a → (N.getD (rightIx N ⟨key, ts[p]⟩ a).toNat default).id = r.id → idleB l r = false) := Lib.hid (fun h1 a ha h2 h3 h4 => idleB_no (fun hidl => (HH.out.1 ⟨ts[p], List.getElem_mem hlp, h1, a, ha, h2, h3, h4⟩) (hidl key HKM.out)))
              have hmT : (p : Int) < (ts.length : Int) := by omega
              have HBF2 := Lib.hid (ext_trans HBF1.out HB.out)
              generalize ts[p] = tm at *
              clear HP
              by_cases htm : 253402300799 < tm
              · have HP1 := Lib.hid (HPN.out (fun h => absurd h (by omega)))
                clear HPN HYS
                go_wp2_with fail
                go_roundw
                case rel => exact ⟨p + 1, by omega, by go_num, HB, HP1⟩
                case measure => simp [intOf]; omega
              · have htm' : tm ≤ 253402300799 := by omega
                have HTU := Lib.hid (turns_any _ N wP (Rp.ext _ HNR.out HB.out) (by omega))
                go_wp2_with fail
                refine HTU.out.mono ?_
                rintro e wt ⟨vta, ta, rfl, hown, hpw, hmem, htl, hbt⟩
                have HTAM : Hid (∀ n, n ∈ ta ↔ n ∈ A0) := Lib.hid (fun n => by rw [hmem n, HA0.out n])
                have HTA : Hid ((Rp.sl (Rp.int .i64)).ok wt (· < wt.heap.size) [vta] ta) := Lib.hid (Rp.int_own hown (fun n hn => by
                  rcases (hmem n).1 hn with rfl | ⟨x, hx, he⟩
                  · exact WalkArith.wf_i64 (by omega)
                  · have hb := HNB.out x hx
                    have h1 := hb.st
                    have h2 := hb.made
                    have h3 := hb.en
                    exact WalkArith.wf_i64 (by omega)) (fun g hg => (hown.lt g hg).2))
                have HYES : Hid (∀ a ∈ ta, a ≤ 253402300799 → 0 ≤ rightIx N ⟨key, tm⟩ a → (N.getD (rightIx N ⟨key, tm⟩ a).toNat default).id = r.id → idleB l r = false) := Lib.hid (fun a ha => HYS.out htm' a ((HTAM.out a).1 ha))
                have HBt := Lib.hid (ext_trans HB.out hbt)
                have HBt3 := HBt
                have HBt0 := Lib.hid (ext_trans HBW0.out HBt.out)
                have HBF3 := Lib.hid (ext_trans HBF2.out hbt)
                obtain ⟨A3, c3, rfl, hl3, hc3, _⟩ := Rp.sl_open HTA.out
                unfold maxLen at hc3
                clear hown hpw hmem hbt HTU HYS hcT
                go_wp2_with fail
                go_loopw [52] (fun vi wr => ∃ q : Nat, q ≤ ta.length ∧ vi = .int .i64 q ∧ Hid (Below wt.heap.size wt wr) ∧ Hid (∀ j (h : j < ta.length), j < q → ta[j] ≤ 253402300799 → ¬ (0 ≤ rightIx N ⟨key, tm⟩ ta[j] ∧ (N.getD (rightIx N ⟨key, tm⟩ ta[j]).toNat default).id = r.id))) (fun vi _ => ta.length - (intOf vi).toNat)
                case atStart => exact ⟨0, by omega, rfl, Below.refl _ _, Lib.hid (fun j _ hj => absurd hj (by omega))⟩
                case round =>
                  obtain ⟨q, hq, rfl, HB, HQ⟩ := hrel
                  by_cases hlq : q < ta.length
                  · obtain ⟨adA, uA, e1, _, hu, hcA⟩ := Rp.sl_at1 rfl (Rp.ext _ HTA.out HB.out) hlq
                    cases e1
                    obtain ⟨e1, _⟩ := hu
                    injection e1 with e1
                    subst e1
                    have HQN : Hid ((ta[q] ≤ 253402300799 → ¬ (0 ≤ rightIx N ⟨key, tm⟩ ta[q] ∧ (N.getD (rightIx N ⟨key, tm⟩ ta[q]).toNat default).id = r.id)) → ∀ j (h : j < ta.length), j < q + 1 → ta[j] ≤ 253402300799 → ¬ (0 ≤ rightIx N ⟨key, tm⟩ ta[j] ∧ (N.getD (rightIx N ⟨key, tm⟩ ta[j]).toNat default).id = r.id)) := Lib.hid (fun h j hj hjk => by
                      by_cases e : j = q
                      · subst e; exact h
                      · exact HQ.out j hj (by omega))
                    have HQY : Hid (ta[q] ≤ 253402300799 → 0 ≤ rightIx N ⟨key, tm⟩ ta[q] → (N.getD (rightIx N ⟨key, tm⟩ ta[q]).toNat default).id = r.id → idleB l r = false) := Lib.hid (fun h1 h2 h3 => HYES.out ta[q] (List.getElem_mem hlq) h1 h2 h3)
                    have hmA : (q : Int) < (ta.length : Int) := by omega
                    generalize ta[q] = at_ at *
                    clear HQ
                    by_cases hat : 253402300799 < at_
                    · have HQ1 := Lib.hid (HQN.out (fun h => absurd h (by omega)))
                      clear HQN HQY
                      go_wp2_with fail
                      go_roundw
                      case rel => exact ⟨q + 1, by omega, by go_num, HB, HQ1⟩
                      case measure => simp [intOf]; omega
                    · have hat' : at_ ≤ 253402300799 := by omega
                      have HNR2 := Lib.hid (Rp.ext _ HNR.out (ext_trans HBt.out HB.out))
                      have HRO := Lib.hid (hRightOf_any _ N ⟨key, tm⟩ at_ wr HNR2.out (by omega) hkl HNG.out)
                      go_wp2_with fail
                      refine HRO.out.mono ?_
                      rintro e wz ⟨rfl, hbz⟩
                      have HB9 := Lib.hid (ext_trans HB.out hbz)
                      have HNZ := Lib.hid (Rp.ext _ HNR2.out hbz)
                      have HLZ := Lib.hid (Rp.ext _ HL0.out (ext_trans HBt0.out (ext_trans HB.out hbz)))
                      have hrng := rightIx_range N ⟨key, tm⟩ at_
                      clear hbz HRO HNR2 hcA
                      generalize rightIx N ⟨key, tm⟩ at_ = R at *
                      by_cases hR : R < 0
                      · have HQ1 := Lib.hid (HQN.out (fun _ h => by omega))
                        clear HQN HQY
                        go_wp2_with fail
                        refine wp_region_held_drew (S := fun w' => Below wz.heap.size wz w') (by kernel_rfl) (Below.drew (Below.refl _ _)) (fun hHeld0 => ?_)
                        obtain ⟨wq, hwq⟩ : ∃ wq, wq = World.drew wz := ⟨_, rfl⟩
                        have hHeld : Below wz.heap.size wz wq := by rw [hwq]; exact Below.drew (Below.refl _ _)
                        have HBQ := Lib.hid hHeld
                        rw [← hwq] at hHeld0 ⊢
                        clear hHeld0 hwq
                        refine wpAnyH_take (i := 0) (v := ?_) rfl (by kernel_rfl) (by kernel_rfl) (by kernel_rfl) (fun _ _ _ h => h) (Or.inl ⟨by rfl, ?_⟩) (by assumption) ?_
                        rotate_left
                        · (intro w hSw; go_simp; try with_reducible rfl)
                        try simp only [List.getElem_toArray, List.getElem_cons_succ, List.getElem_cons_zero, Act.put, List.setIfInBounds_toArray, List.set_cons_zero, List.set_cons_succ]
                        refine wpAnyH_take (i := 1) (v := .bool false) rfl (by kernel_rfl) (by kernel_rfl) (by kernel_rfl) (fun _ _ _ h => h) (Or.inl ⟨by rfl, ?_⟩) (by assumption) ?_
                        · (intro w hSw; go_simp <;> (first | rfl | (rw [decide_eq_false (by omega)]) | omega))
                        try simp only [List.getElem_toArray, List.getElem_cons_succ, List.getElem_cons_zero, Act.put, List.setIfInBounds_toArray, List.set_cons_zero, List.set_cons_succ]
                        refine wpAnyH_take (i := 2) (v := ?_) rfl (by kernel_rfl) (by kernel_rfl) (by kernel_rfl) (fun _ _ _ h => h) (Or.inl ⟨by rfl, ?_⟩) (by assumption) ?_
                        rotate_left
                        · (intro w hSw; go_simp; try with_reducible rfl)
                        try simp only [List.getElem_toArray, List.getElem_cons_succ, List.getElem_cons_zero, Act.put, List.setIfInBounds_toArray, List.set_cons_zero, List.set_cons_succ]
                        refine wpAnyH_take (i := 3) (v := undef) rfl (by kernel_rfl) (by kernel_rfl) (by kernel_rfl) (fun _ _ _ h => h) (Or.inr ⟨by rfl, rfl⟩) (by assumption) ?_
                        try simp only [List.getElem_toArray, List.getElem_cons_succ, List.getElem_cons_zero, Act.put, List.setIfInBounds_toArray, List.set_cons_zero, List.set_cons_succ]
                        refine wpAnyH_take (i := 4) (v := undef) rfl (by kernel_rfl) (by kernel_rfl) (by kernel_rfl) (fun _ _ _ h => h) (Or.inr ⟨by rfl, rfl⟩) (by assumption) ?_
                        try simp only [List.getElem_toArray, List.getElem_cons_succ, List.getElem_cons_zero, Act.put, List.setIfInBounds_toArray, List.set_cons_zero, List.set_cons_succ]
                        refine wpAnyH_take (i := 5) (v := undef) rfl (by kernel_rfl) (by kernel_rfl) (by kernel_rfl) (fun _ _ _ h => h) (Or.inr ⟨by rfl, rfl⟩) (by assumption) ?_
                        try simp only [List.getElem_toArray, List.getElem_cons_succ, List.getElem_cons_zero, Act.put, List.setIfInBounds_toArray, List.set_cons_zero, List.set_cons_succ]
                        refine wpAnyH_take (i := 6) (v := undef) rfl (by kernel_rfl) (by kernel_rfl) (by kernel_rfl) (fun _ _ _ h => h) (Or.inr ⟨by rfl, rfl⟩) (by assumption) ?_
                        try simp only [List.getElem_toArray, List.getElem_cons_succ, List.getElem_cons_zero, Act.put, List.setIfInBounds_toArray, List.set_cons_zero, List.set_cons_succ]
                        refine wpAnyH_take (i := 7) (v := undef) rfl (by kernel_rfl) (by kernel_rfl) (by kernel_rfl) (fun _ _ _ h => h) (Or.inr ⟨by rfl, rfl⟩) (by assumption) ?_
                        try simp only [List.getElem_toArray, List.getElem_cons_succ, List.getElem_cons_zero, Act.put, List.setIfInBounds_toArray, List.set_cons_zero, List.set_cons_succ]
                        refine wpAnyH_take (i := 8) (v := undef) rfl (by kernel_rfl) (by kernel_rfl) (by kernel_rfl) (fun _ _ _ h => h) (Or.inr ⟨by rfl, rfl⟩) (by assumption) ?_
                        try simp only [List.getElem_toArray, List.getElem_cons_succ, List.getElem_cons_zero, Act.put, List.setIfInBounds_toArray, List.set_cons_zero, List.set_cons_succ]
                        refine wpAnyH_take (i := 9) (v := undef) rfl (by kernel_rfl) (by kernel_rfl) (by kernel_rfl) (fun _ _ _ h => h) (Or.inr ⟨by rfl, rfl⟩) (by assumption) ?_
                        try simp only [List.getElem_toArray, List.getElem_cons_succ, List.getElem_cons_zero, Act.put, List.setIfInBounds_toArray, List.set_cons_zero, List.set_cons_succ]
                        refine wpAnyH_take (i := 10) (v := undef) rfl (by kernel_rfl) (by kernel_rfl) (by kernel_rfl) (fun _ _ _ h => h) (Or.inr ⟨by rfl, rfl⟩) (by assumption) ?_
                        try simp only [List.getElem_toArray, List.getElem_cons_succ, List.getElem_cons_zero, Act.put, List.setIfInBounds_toArray, List.set_cons_zero, List.set_cons_succ]
                        refine wpAnyH_take (i := 11) (v := undef) rfl (by kernel_rfl) (by kernel_rfl) (by kernel_rfl) (fun _ _ _ h => h) (Or.inr ⟨by rfl, rfl⟩) (by assumption) ?_
                        try simp only [List.getElem_toArray, List.getElem_cons_succ, List.getElem_cons_zero, Act.put, List.setIfInBounds_toArray, List.set_cons_zero, List.set_cons_succ]
                        refine wpAnyH_take (i := 12) (v := undef) rfl (by kernel_rfl) (by kernel_rfl) (by kernel_rfl) (fun _ _ _ h => h) (Or.inr ⟨by rfl, rfl⟩) (by assumption) ?_
                        try simp only [List.getElem_toArray, List.getElem_cons_succ, List.getElem_cons_zero, Act.put, List.setIfInBounds_toArray, List.set_cons_zero, List.set_cons_succ]
                        refine wpAnyH_take (i := 13) (v := undef) rfl (by kernel_rfl) (by kernel_rfl) (by kernel_rfl) (fun _ _ _ h => h) (Or.inr ⟨by rfl, rfl⟩) (by assumption) ?_
                        try simp only [List.getElem_toArray, List.getElem_cons_succ, List.getElem_cons_zero, Act.put, List.setIfInBounds_toArray, List.set_cons_zero, List.set_cons_succ]
                        refine wpAnyH_take (i := 14) (v := ?_) rfl (by kernel_rfl) (by kernel_rfl) (by kernel_rfl) (fun _ _ _ h => h) (Or.inl ⟨by rfl, ?_⟩) (by assumption) ?_
                        rotate_left
                        · (intro w hSw; go_simp; try with_reducible rfl)
                        try simp only [List.getElem_toArray, List.getElem_cons_succ, List.getElem_cons_zero, Act.put, List.setIfInBounds_toArray, List.set_cons_zero, List.set_cons_succ]
                        refine wpAnyH_done (by kernel_rfl) ?_ _
                        have HBn := Lib.hid (ext_trans HB9.out HBQ.out)
                        clear hHeld HBQ
                        generalize wq = wn at *
                        go_wp2_with fail
                        go_roundw
                        case rel => exact ⟨q + 1, by omega, by go_num, HBn, HQ1⟩
                        case measure => simp [intOf]; omega
                      · obtain ⟨jx, rfl⟩ : ∃ jx : Nat, R = (jx : Int) := ⟨R.toNat, by omega⟩
                        have hjx : jx < N.length := by omega
                        obtain ⟨adN, cN, eN, hadN, n0, _⟩ := rgt_at HNZ.out hjx
                        cases eN
                        obtain ⟨adL, cL, eL, hadL, l0, _⟩ := rgt_at HLZ.out hi
                        cases eL
                        rw [HRI.out] at l0
                        have hadN2 : (adN.add (jx * 9)).block < wz.heap.size := by rw [add_block]; exact hadN
                        have hadL2 : (ad.add (i * 9)).block < wz.heap.size := by rw [add_block]; exact hadL
                        have hjI : (jx : Int) < (N.length : Int) := by omega
                        have hiL : (i : Int) < (l.length : Int) := by omega
                        rw [Int.toNat_natCast, getD_at _ _ hjx] at HQN HQY
                        generalize N[jx] = y at *
                        by_cases hyi : y.id = r.id
                        · have hyid : ((bstr y.id).toList == (bstr r.id).toList) = true := str_beq (by rw [hyi])
                          have HYN := Lib.hid (HQY.out hat' (by omega) hyi)
                          clear HQN HQY
                          go_wp2_with fail
                          refine wp_region_held_drew (S := fun w' => Below wz.heap.size wz w') (by kernel_rfl) (Below.drew (Below.refl _ _)) (fun hHeld0 => ?_)
                          obtain ⟨wq, hwq⟩ : ∃ wq, wq = World.drew wz := ⟨_, rfl⟩
                          have hHeld : Below wz.heap.size wz wq := by rw [hwq]; exact Below.drew (Below.refl _ _)
                          have HBQ := Lib.hid hHeld
                          rw [← hwq] at hHeld0 ⊢
                          clear hHeld0 hwq
                          refine wpAnyH_take (i := 0) (v := ?_) rfl (by kernel_rfl) (by kernel_rfl) (by kernel_rfl) (fun _ _ _ h => h) (Or.inl ⟨by rfl, ?_⟩) (by assumption) ?_
                          rotate_left
                          · (intro w hSw; go_simp; try with_reducible rfl)
                          try simp only [List.getElem_toArray, List.getElem_cons_succ, List.getElem_cons_zero, Act.put, List.setIfInBounds_toArray, List.set_cons_zero, List.set_cons_succ]
                          refine wpAnyH_take (i := 1) (v := .bool true) rfl (by kernel_rfl) (by kernel_rfl) (by kernel_rfl) (fun _ _ _ h => h) (Or.inl ⟨by rfl, ?_⟩) (by assumption) ?_
                          · (intro w hSw; go_simp <;> (first | rfl | (rw [decide_eq_true (by omega)]) | omega))
                          try simp only [List.getElem_toArray, List.getElem_cons_succ, List.getElem_cons_zero, Act.put, List.setIfInBounds_toArray, List.set_cons_zero, List.set_cons_succ]
                          refine wpAnyH_take (i := 2) (v := ?_) rfl (by kernel_rfl) (by kernel_rfl) (by kernel_rfl) (fun _ _ _ h => h) (Or.inl ⟨by rfl, ?_⟩) (by assumption) ?_
                          rotate_left
                          · (intro w hSw; go_simp; try with_reducible rfl)
                          try simp only [List.getElem_toArray, List.getElem_cons_succ, List.getElem_cons_zero, Act.put, List.setIfInBounds_toArray, List.set_cons_zero, List.set_cons_succ]
                          refine wpAnyH_take (i := 3) (v := ?_) rfl (by kernel_rfl) (by kernel_rfl) (by kernel_rfl) (fun _ _ _ h => h) (Or.inl ⟨by rfl, ?_⟩) (by assumption) ?_
                          rotate_left
                          · (intro w hSw; go_simp; try with_reducible rfl)
                          try simp only [List.getElem_toArray, List.getElem_cons_succ, List.getElem_cons_zero, Act.put, List.setIfInBounds_toArray, List.set_cons_zero, List.set_cons_succ]
                          refine wpAnyH_take (i := 4) (v := ?_) rfl (by kernel_rfl) (by kernel_rfl) (by kernel_rfl) (fun _ _ _ h => h) (Or.inl ⟨by rfl, ?_⟩) (by assumption) ?_
                          rotate_left
                          · (intro w hSw; go_simp; try with_reducible rfl)
                          try simp only [List.getElem_toArray, List.getElem_cons_succ, List.getElem_cons_zero, Act.put, List.setIfInBounds_toArray, List.set_cons_zero, List.set_cons_succ]
                          refine wpAnyH_take (i := 5) (v := ?_) rfl (by kernel_rfl) (by kernel_rfl) (by kernel_rfl) (fun _ _ _ h => h) (Or.inl ⟨by rfl, ?_⟩) (by assumption) ?_
                          rotate_left
                          · (intro w hSw; go_simp; (try rw [if_pos (by omega)]); (try rw [Int.toNat_natCast]); try with_reducible rfl)
                          try simp only [List.getElem_toArray, List.getElem_cons_succ, List.getElem_cons_zero, Act.put, List.setIfInBounds_toArray, List.set_cons_zero, List.set_cons_succ]
                          refine wpAnyH_take (i := 6) (v := ?_) rfl (by kernel_rfl) (by kernel_rfl) (by kernel_rfl) (fun _ _ _ h => h) (Or.inl ⟨by rfl, ?_⟩) (by assumption) ?_
                          rotate_left
                          · (intro w hSw; go_simp; try with_reducible rfl)
                          try simp only [List.getElem_toArray, List.getElem_cons_succ, List.getElem_cons_zero, Act.put, List.setIfInBounds_toArray, List.set_cons_zero, List.set_cons_succ]
                          refine wpAnyH_take (i := 7) (v := ?_) rfl (by kernel_rfl) (by kernel_rfl) (by kernel_rfl) (fun _ _ _ h => h) (Or.inl ⟨by rfl, ?_⟩) (by assumption) ?_
                          rotate_left
                          · (intro w hSw; have q0 : w.cell? (adN.add (jx * 9)) = some (.string (bstr y.id)) := (hSw.cell (p := (adN.add (jx * 9))) hadN2).trans n0; go_simp; try with_reducible rfl)
                          try simp only [List.getElem_toArray, List.getElem_cons_succ, List.getElem_cons_zero, Act.put, List.setIfInBounds_toArray, List.set_cons_zero, List.set_cons_succ]
                          refine wpAnyH_take (i := 8) (v := ?_) rfl (by kernel_rfl) (by kernel_rfl) (by kernel_rfl) (fun _ _ _ h => h) (Or.inl ⟨by rfl, ?_⟩) (by assumption) ?_
                          rotate_left
                          · (intro w hSw; go_simp; try with_reducible rfl)
                          try simp only [List.getElem_toArray, List.getElem_cons_succ, List.getElem_cons_zero, Act.put, List.setIfInBounds_toArray, List.set_cons_zero, List.set_cons_succ]
                          refine wpAnyH_take (i := 9) (v := ?_) rfl (by kernel_rfl) (by kernel_rfl) (by kernel_rfl) (fun _ _ _ h => h) (Or.inl ⟨by rfl, ?_⟩) (by assumption) ?_
                          rotate_left
                          · (intro w hSw; go_simp; try with_reducible rfl)
                          try simp only [List.getElem_toArray, List.getElem_cons_succ, List.getElem_cons_zero, Act.put, List.setIfInBounds_toArray, List.set_cons_zero, List.set_cons_succ]
                          refine wpAnyH_take (i := 10) (v := ?_) rfl (by kernel_rfl) (by kernel_rfl) (by kernel_rfl) (fun _ _ _ h => h) (Or.inl ⟨by rfl, ?_⟩) (by assumption) ?_
                          rotate_left
                          · (intro w hSw; go_simp; (try rw [if_pos (by omega)]); (try rw [Int.toNat_natCast]); try with_reducible rfl)
                          try simp only [List.getElem_toArray, List.getElem_cons_succ, List.getElem_cons_zero, Act.put, List.setIfInBounds_toArray, List.set_cons_zero, List.set_cons_succ]
                          refine wpAnyH_take (i := 11) (v := ?_) rfl (by kernel_rfl) (by kernel_rfl) (by kernel_rfl) (fun _ _ _ h => h) (Or.inl ⟨by rfl, ?_⟩) (by assumption) ?_
                          rotate_left
                          · (intro w hSw; go_simp; try with_reducible rfl)
                          try simp only [List.getElem_toArray, List.getElem_cons_succ, List.getElem_cons_zero, Act.put, List.setIfInBounds_toArray, List.set_cons_zero, List.set_cons_succ]
                          refine wpAnyH_take (i := 12) (v := ?_) rfl (by kernel_rfl) (by kernel_rfl) (by kernel_rfl) (fun _ _ _ h => h) (Or.inl ⟨by rfl, ?_⟩) (by assumption) ?_
                          rotate_left
                          · (intro w hSw; have q0 : w.cell? (ad.add (i * 9)) = some (.string (bstr r.id)) := (hSw.cell (p := (ad.add (i * 9))) hadL2).trans l0; go_simp; try with_reducible rfl)
                          try simp only [List.getElem_toArray, List.getElem_cons_succ, List.getElem_cons_zero, Act.put, List.setIfInBounds_toArray, List.set_cons_zero, List.set_cons_succ]
                          refine wpAnyH_take (i := 13) (v := .bool true) rfl (by kernel_rfl) (by kernel_rfl) (by kernel_rfl) (fun _ _ _ h => h) (Or.inl ⟨by rfl, ?_⟩) (by assumption) ?_
                          · (intro w hSw; go_simp <;> (first | rfl | exact congrArg (fun b => Result.ok (Next.value (Value.bool b)) _) hyid | (simp [hyid])))
                          try simp only [List.getElem_toArray, List.getElem_cons_succ, List.getElem_cons_zero, Act.put, List.setIfInBounds_toArray, List.set_cons_zero, List.set_cons_succ]
                          refine wpAnyH_take (i := 14) (v := ?_) rfl (by kernel_rfl) (by kernel_rfl) (by kernel_rfl) (fun _ _ _ h => h) (Or.inl ⟨by rfl, ?_⟩) (by assumption) ?_
                          rotate_left
                          · (intro w hSw; go_simp; try with_reducible rfl)
                          try simp only [List.getElem_toArray, List.getElem_cons_succ, List.getElem_cons_zero, Act.put, List.setIfInBounds_toArray, List.set_cons_zero, List.set_cons_succ]
                          refine wpAnyH_done (by kernel_rfl) ?_ _
                          have HBn := Lib.hid (ext_trans HB9.out HBQ.out)
                          have HBF := Lib.hid (ext_trans HBF3.out HBn.out)
                          clear hHeld HBQ
                          generalize wq = wn at *
                          go_wp2_with fail
                          go_ret
                          exact ⟨by rw [HYN.out]; rfl, HBF.out⟩
                        · have hyid : ((bstr y.id).toList == (bstr r.id).toList) = false := str_bne (fun e => hyi (bstr_inj e))
                          have HQ1 := Lib.hid (HQN.out (fun _ h => hyi h.2))
                          clear HQN HQY
                          go_wp2_with fail
                          refine wp_region_held_drew (S := fun w' => Below wz.heap.size wz w') (by kernel_rfl) (Below.drew (Below.refl _ _)) (fun hHeld0 => ?_)
                          obtain ⟨wq, hwq⟩ : ∃ wq, wq = World.drew wz := ⟨_, rfl⟩
                          have hHeld : Below wz.heap.size wz wq := by rw [hwq]; exact Below.drew (Below.refl _ _)
                          have HBQ := Lib.hid hHeld
                          rw [← hwq] at hHeld0 ⊢
                          clear hHeld0 hwq
                          refine wpAnyH_take (i := 0) (v := ?_) rfl (by kernel_rfl) (by kernel_rfl) (by kernel_rfl) (fun _ _ _ h => h) (Or.inl ⟨by rfl, ?_⟩) (by assumption) ?_
                          rotate_left
                          · (intro w hSw; go_simp; try with_reducible rfl)
                          try simp only [List.getElem_toArray, List.getElem_cons_succ, List.getElem_cons_zero, Act.put, List.setIfInBounds_toArray, List.set_cons_zero, List.set_cons_succ]
                          refine wpAnyH_take (i := 1) (v := .bool true) rfl (by kernel_rfl) (by kernel_rfl) (by kernel_rfl) (fun _ _ _ h => h) (Or.inl ⟨by rfl, ?_⟩) (by assumption) ?_
                          · (intro w hSw; go_simp <;> (first | rfl | (rw [decide_eq_true (by omega)]) | omega))
                          try simp only [List.getElem_toArray, List.getElem_cons_succ, List.getElem_cons_zero, Act.put, List.setIfInBounds_toArray, List.set_cons_zero, List.set_cons_succ]
                          refine wpAnyH_take (i := 2) (v := ?_) rfl (by kernel_rfl) (by kernel_rfl) (by kernel_rfl) (fun _ _ _ h => h) (Or.inl ⟨by rfl, ?_⟩) (by assumption) ?_
                          rotate_left
                          · (intro w hSw; go_simp; try with_reducible rfl)
                          try simp only [List.getElem_toArray, List.getElem_cons_succ, List.getElem_cons_zero, Act.put, List.setIfInBounds_toArray, List.set_cons_zero, List.set_cons_succ]
                          refine wpAnyH_take (i := 3) (v := ?_) rfl (by kernel_rfl) (by kernel_rfl) (by kernel_rfl) (fun _ _ _ h => h) (Or.inl ⟨by rfl, ?_⟩) (by assumption) ?_
                          rotate_left
                          · (intro w hSw; go_simp; try with_reducible rfl)
                          try simp only [List.getElem_toArray, List.getElem_cons_succ, List.getElem_cons_zero, Act.put, List.setIfInBounds_toArray, List.set_cons_zero, List.set_cons_succ]
                          refine wpAnyH_take (i := 4) (v := ?_) rfl (by kernel_rfl) (by kernel_rfl) (by kernel_rfl) (fun _ _ _ h => h) (Or.inl ⟨by rfl, ?_⟩) (by assumption) ?_
                          rotate_left
                          · (intro w hSw; go_simp; try with_reducible rfl)
                          try simp only [List.getElem_toArray, List.getElem_cons_succ, List.getElem_cons_zero, Act.put, List.setIfInBounds_toArray, List.set_cons_zero, List.set_cons_succ]
                          refine wpAnyH_take (i := 5) (v := ?_) rfl (by kernel_rfl) (by kernel_rfl) (by kernel_rfl) (fun _ _ _ h => h) (Or.inl ⟨by rfl, ?_⟩) (by assumption) ?_
                          rotate_left
                          · (intro w hSw; go_simp; (try rw [if_pos (by omega)]); (try rw [Int.toNat_natCast]); try with_reducible rfl)
                          try simp only [List.getElem_toArray, List.getElem_cons_succ, List.getElem_cons_zero, Act.put, List.setIfInBounds_toArray, List.set_cons_zero, List.set_cons_succ]
                          refine wpAnyH_take (i := 6) (v := ?_) rfl (by kernel_rfl) (by kernel_rfl) (by kernel_rfl) (fun _ _ _ h => h) (Or.inl ⟨by rfl, ?_⟩) (by assumption) ?_
                          rotate_left
                          · (intro w hSw; go_simp; try with_reducible rfl)
                          try simp only [List.getElem_toArray, List.getElem_cons_succ, List.getElem_cons_zero, Act.put, List.setIfInBounds_toArray, List.set_cons_zero, List.set_cons_succ]
                          refine wpAnyH_take (i := 7) (v := ?_) rfl (by kernel_rfl) (by kernel_rfl) (by kernel_rfl) (fun _ _ _ h => h) (Or.inl ⟨by rfl, ?_⟩) (by assumption) ?_
                          rotate_left
                          · (intro w hSw; have q0 : w.cell? (adN.add (jx * 9)) = some (.string (bstr y.id)) := (hSw.cell (p := (adN.add (jx * 9))) hadN2).trans n0; go_simp; try with_reducible rfl)
                          try simp only [List.getElem_toArray, List.getElem_cons_succ, List.getElem_cons_zero, Act.put, List.setIfInBounds_toArray, List.set_cons_zero, List.set_cons_succ]
                          refine wpAnyH_take (i := 8) (v := ?_) rfl (by kernel_rfl) (by kernel_rfl) (by kernel_rfl) (fun _ _ _ h => h) (Or.inl ⟨by rfl, ?_⟩) (by assumption) ?_
                          rotate_left
                          · (intro w hSw; go_simp; try with_reducible rfl)
                          try simp only [List.getElem_toArray, List.getElem_cons_succ, List.getElem_cons_zero, Act.put, List.setIfInBounds_toArray, List.set_cons_zero, List.set_cons_succ]
                          refine wpAnyH_take (i := 9) (v := ?_) rfl (by kernel_rfl) (by kernel_rfl) (by kernel_rfl) (fun _ _ _ h => h) (Or.inl ⟨by rfl, ?_⟩) (by assumption) ?_
                          rotate_left
                          · (intro w hSw; go_simp; try with_reducible rfl)
                          try simp only [List.getElem_toArray, List.getElem_cons_succ, List.getElem_cons_zero, Act.put, List.setIfInBounds_toArray, List.set_cons_zero, List.set_cons_succ]
                          refine wpAnyH_take (i := 10) (v := ?_) rfl (by kernel_rfl) (by kernel_rfl) (by kernel_rfl) (fun _ _ _ h => h) (Or.inl ⟨by rfl, ?_⟩) (by assumption) ?_
                          rotate_left
                          · (intro w hSw; go_simp; (try rw [if_pos (by omega)]); (try rw [Int.toNat_natCast]); try with_reducible rfl)
                          try simp only [List.getElem_toArray, List.getElem_cons_succ, List.getElem_cons_zero, Act.put, List.setIfInBounds_toArray, List.set_cons_zero, List.set_cons_succ]
                          refine wpAnyH_take (i := 11) (v := ?_) rfl (by kernel_rfl) (by kernel_rfl) (by kernel_rfl) (fun _ _ _ h => h) (Or.inl ⟨by rfl, ?_⟩) (by assumption) ?_
                          rotate_left
                          · (intro w hSw; go_simp; try with_reducible rfl)
                          try simp only [List.getElem_toArray, List.getElem_cons_succ, List.getElem_cons_zero, Act.put, List.setIfInBounds_toArray, List.set_cons_zero, List.set_cons_succ]
                          refine wpAnyH_take (i := 12) (v := ?_) rfl (by kernel_rfl) (by kernel_rfl) (by kernel_rfl) (fun _ _ _ h => h) (Or.inl ⟨by rfl, ?_⟩) (by assumption) ?_
                          rotate_left
                          · (intro w hSw; have q0 : w.cell? (ad.add (i * 9)) = some (.string (bstr r.id)) := (hSw.cell (p := (ad.add (i * 9))) hadL2).trans l0; go_simp; try with_reducible rfl)
                          try simp only [List.getElem_toArray, List.getElem_cons_succ, List.getElem_cons_zero, Act.put, List.setIfInBounds_toArray, List.set_cons_zero, List.set_cons_succ]
                          refine wpAnyH_take (i := 13) (v := .bool false) rfl (by kernel_rfl) (by kernel_rfl) (by kernel_rfl) (fun _ _ _ h => h) (Or.inl ⟨by rfl, ?_⟩) (by assumption) ?_
                          · (intro w hSw; go_simp <;> (first | rfl | exact congrArg (fun b => Result.ok (Next.value (Value.bool b)) _) hyid | (simp [hyid])))
                          try simp only [List.getElem_toArray, List.getElem_cons_succ, List.getElem_cons_zero, Act.put, List.setIfInBounds_toArray, List.set_cons_zero, List.set_cons_succ]
                          refine wpAnyH_take (i := 14) (v := ?_) rfl (by kernel_rfl) (by kernel_rfl) (by kernel_rfl) (fun _ _ _ h => h) (Or.inl ⟨by rfl, ?_⟩) (by assumption) ?_
                          rotate_left
                          · (intro w hSw; go_simp; try with_reducible rfl)
                          try simp only [List.getElem_toArray, List.getElem_cons_succ, List.getElem_cons_zero, Act.put, List.setIfInBounds_toArray, List.set_cons_zero, List.set_cons_succ]
                          refine wpAnyH_done (by kernel_rfl) ?_ _
                          have HBn := Lib.hid (ext_trans HB9.out HBQ.out)
                          clear hHeld HBQ
                          generalize wq = wn at *
                          go_wp2_with fail
                          go_roundw
                          case rel => exact ⟨q + 1, by omega, by go_num, HBn, HQ1⟩
                          case measure => simp [intOf]; omega
                  · obtain rfl : q = ta.length := by omega
                    have HBp := Lib.hid (ext_trans HBt3.out HB.out)
                    have HP1 := Lib.hid (HPN.out (fun _ a ha ham => by
                      obtain ⟨j, hj, rfl⟩ := List.mem_iff_getElem.1 ((HTAM.out a).2 ha)
                      exact HQ.out j hj hj ham))
                    clear HPN HQ HYES
                    go_wp2_with fail
                    go_roundw
                    case rel => exact ⟨p + 1, by omega, by go_num, HBp, HP1⟩
                    case measure => simp [intOf]; omega
            · obtain rfl : p = ts.length := by omega
              have HC1 := Lib.hid (HCN.out (Classical.not_not.1 (fun hn => by
                obtain ⟨tm, htm, h1, a, ha, h2, h3, h4⟩ := HH.out.2 hn
                obtain ⟨j, hj, rfl⟩ := List.mem_iff_getElem.1 htm
                exact HP.out j hj hj h1 a ha h2 ⟨h3, h4⟩)))
              have HBk := Lib.hid (ext_trans HBW.out HB.out)
              clear HCN HP HH
              go_wp2_with fail
              go_roundw
              case rel => exact ⟨k + 1, by omega, by go_num, HBk, HC1⟩
              case measure => simp [intOf]; omega
    · obtain rfl : k = (keysL r).length := by omega
      have HYI := Lib.hid (idleB_yes (l := l) (r := r) (fun key hkm => by
        obtain ⟨j, hj, rfl⟩ := List.mem_iff_getElem.1 hkm
        exact HCK.out j hj hj))
      go_wp2_with fail
      go_ret
      exact ⟨by rw [HYI.out]; rfl, HBF0.out⟩
end Go.Proofs.YtdljgjlkfihjdaaGreatDoor
