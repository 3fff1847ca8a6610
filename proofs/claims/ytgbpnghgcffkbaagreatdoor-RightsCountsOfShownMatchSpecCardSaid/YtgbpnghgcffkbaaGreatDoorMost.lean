/-
  'Most' of package rights.
-/
import Derived.Test.YtgbpnghgcffkbaaGreatDoorTal
import Derived.Test.YtgbpnghgcffkbaaGreatDoorSortT
import Derived.Test.YtgbpnghgcffkbaaGreatDoorWithin
namespace Go.Proofs.YtgbpnghgcffkbaaGreatDoor
open Go.RowKit
set_option linter.unusedVariables false
set_option linter.unusedSimpArgs false

def MostPost (s : List Shn) (fr to : Int) (w : World) (e : Ending) (w' : World) : Prop :=
  ∃ v xs, e = .returned (.tuple #[v, .int .i64 (mostF s fr to)]) ∧ (Rp.sl talRp).ok w' (· < w'.heap.size) [v] xs ∧ (mostF s fr to = 0 → TalOk (keysIn fr to s) xs) ∧ (mostF s fr to ≠ 0 → xs = []) ∧ Below w.heap.size w w'
theorem most_bad {s : List Shn} {fr to f : Int} {w w' : World} (hf : mostF s fr to = f) (hn : f ≠ 0) (hb : Below w.heap.size w w') : MostPost s fr to w (.returned (.tuple #[.slice none 0 0, .int .i64 f])) w' :=
  ⟨_, [], by rw [hf], Rp.sl_nil _ _ _, fun h => absurd (hf ▸ h) hn, fun _ => rfl, hb⟩
theorem mostF_1 {s : List Shn} {fr to : Int} (h : shownFault s ≠ 0) : mostF s fr to = shownFault s := if_pos h
theorem mostF_2 {s : List Shn} {fr to : Int} (h : shownFault s = 0) (h2 : withinB fr 0 253402300800 = false ∨ withinB to 0 253402300800 = false) : mostF s fr to = 1 := by
  rw [mostF, if_neg (by rw [h]; decide), if_pos h2]
theorem mostF_3 {s : List Shn} {fr to : Int} (h : shownFault s = 0) (h2 : withinB fr 0 253402300800 = true) (h3 : withinB to 0 253402300800 = true) : mostF s fr to = 0 := by
  rw [mostF, if_neg (by rw [h]; decide), if_neg (by rw [h2, h3]; decide)]
theorem keysIn_sz {w : World} {S : Nat → Prop} {v : Value} {l : List Shn} {fr to : Int} (h : (Rp.sl shnRp).ok w S [v] l) : ∀ x ∈ keysIn fr to l, x.length ≤ maxLen := by
  intro x hx
  obtain ⟨y, hy, rfl⟩ := List.mem_map.1 hx
  obtain ⟨k, hk, rfl⟩ := List.mem_iff_getElem.1 (List.mem_filter.1 hy).1
  obtain ⟨_, _, _, _, _, _, _, _, _, hz⟩ := shn_at h hk
  exact hz.2.2.1
theorem own_kept {w w' : World} {B n : Nat} {e : TypeId} {size : Nat} {v : Value} {xs : List Value} {row : Option Nat} (h : w.ownsRow B e size v n xs) (hg : w.grownBy w' row) (hne : v.ownBlock ≠ row) : w'.ownsRow B e size v n xs := by
  refine ⟨h.1, ?_⟩
  rcases h.2 with ⟨rfl, h2⟩ | ⟨g, cap, cur, rfl, h1, h2, h3⟩
  · exact .inl ⟨rfl, h2⟩
  · refine .inr ⟨g, cap, cur, rfl, h1, ?_, h3⟩
    rw [hg.block g (Array.getElem?_eq_some_iff.1 h2).1 hne]; exact h2
set_option maxRecDepth 100000 in
set_option maxHeartbeats 8000000 in
theorem most_any (v : Value) (s : List Shn) (fr to : Int) (w : World) (h0 : (Rp.sl shnRp).ok w (· < w.heap.size) [v] s) :
    Calls Tryz.prog 18 #[v, .int .i64 fr, .int .i64 to] w (MostPost s fr to w) := by
  obtain ⟨A, cc, rfl, hl, hc, hnil⟩ := Rp.sl_open h0
  unfold maxLen at hc
  have H0 := Lib.hid h0
  clear h0
  go_enter Tryz.func18, Tryz.ntmps18
  go_wp2_with fail
  refine (checkShown_any _ s w H0.out).mono ?_
  rintro e w1 ⟨rfl, hb⟩
  have HB1 := Lib.hid hb
  clear hb
  by_cases ha : shownFault s = 0
  case neg =>
    have HF : Hid (mostF s fr to = shownFault s) := Lib.hid (mostF_1 ha)
    have HN := Lib.hid ha
    have hn : (shownFault s != 0) = true := by simpa using ha
    clear ha
    generalize shownFault s = ff at *
    go_wp2_with fail
    go_ret2
    exact most_bad HF.out HN.out HB1.out
  have HA := Lib.hid ha
  have hls := shownF_len ha
  rw [ha]
  clear ha
  go_wp2_with fail
  refine (gwithin_any fr 0 253402300800 w1).mono ?_
  rintro e w1' ⟨rfl, hw⟩
  subst hw
  cases q3 : withinB fr 0 253402300800 with
  | false =>
    have HF : Hid (mostF s fr to = 1) := Lib.hid (mostF_2 HA.out (.inl q3))
    clear q3
    go_wp2_with fail
    go_ret2
    exact most_bad HF.out (by decide) HB1.out
  | true =>
  have Q3 := Lib.hid q3
  clear q3
  go_wp2_with fail
  refine (gwithin_any to 0 253402300800 _).mono ?_
  rintro e w1'' ⟨rfl, hw⟩
  subst hw
  cases q4 : withinB to 0 253402300800 with
  | false =>
    have HF : Hid (mostF s fr to = 1) := Lib.hid (mostF_2 HA.out (.inr q4))
    clear q4
    go_wp2_with fail
    go_ret2
    exact most_bad HF.out (by decide) HB1.out
  | true =>
  have HF : Hid (mostF s fr to = 0) := Lib.hid (mostF_3 HA.out Q3.out q4)
  clear q4 Q3
  generalize w1'' = w1 at *
  have HM0 := Lib.hid (VMap.made (P := Tryz.prog) (K := 9) (z := .int .i64 0) w1)
  have HBM := Lib.hid ((Below.refl w1.heap.size w1).alloc (Nat.le_refl _) (.map #[] 0))
  have hmm := @run_makeMap Tryz.prog
  go_wp2_with fail
  clear hmm
  obtain ⟨mb, hmb⟩ : ∃ mb, mb = w1.heap.size := ⟨_, rfl⟩
  have HMB := Lib.hid (show w1.heap.size ≤ mb by omega)
  rw [← hmb] at HM0 ⊢
  clear hmb
  go_loopw [31] (fun vi wr => ∃ (k n : Nat) (f : Lit → Option Value), k ≤ s.length ∧ vi = .int .i64 k ∧ n ≤ k ∧ Hid (VMap Tryz.prog 9 (.int .i64 0) wr mb n f) ∧ Hid (TalF (keysIn fr to (s.take k)) f) ∧ Hid (Below w1.heap.size w1 wr)) (fun vi _ => s.length - (intOf vi).toNat)
  case atStart => exact ⟨0, 0, _, by omega, rfl, by omega, HM0, by rw [List.take_zero]; exact Lib.hid talF_nil, HBM⟩
  case round =>
    clear HM0 HBM
    obtain ⟨k, n, f, hk, rfl, hnk, HM, HT, HB⟩ := hrel
    by_cases hlt : k < s.length
    · obtain ⟨ad, c', e1, hadb, c0, c1, c2, c3, c4, hz⟩ := shn_at (Rp.ext _ H0.out (HB1.out.trans (HB.out.mono HB1.out.size))) hlt
      cases e1
      have HKZ := Lib.hid hz.2.2.1
      clear hz
      have HNX := Lib.hid (keysIn_next (fr := fr) (to := to) hlt)
      have hkl : (keysIn fr to (s.take k)).length ≤ 3000 := Nat.le_trans (keysIn_len _ _ _) (by rw [List.length_take]; omega)
      generalize keysIn fr to (s.take k) = ks at *
      generalize hx : s[k] = x at *
      clear hx
      have hal := (Below.refl wr.heap.size wr).alloc (Nat.le_refl _) (.cells #[.int .i64 x.at_, .string (bstr x.who), .bool x.house, .string (bstr x.key), .int .i64 x.time] 93)
      have HB2 := Lib.hid (HB.out.trans (hal.mono HB.out.size))
      have HM2 := Lib.hid (HM.out.below hal HM.out.lt)
      have HKX2 := Lib.hid (Blk.new wr 93 [.int .i64 x.at_, .string (bstr x.who), .bool x.house, .string (bstr x.key), .int .i64 x.time])
      clear hal HB HM
      go_upto_region 10 with fail
      clear c0 c1 c2 c3 c4
      obtain ⟨xb, hxb⟩ : ∃ xb, xb = wr.heap.size := ⟨_, rfl⟩
      rw [← hxb] at HKX2 ⊢
      clear hxb
      generalize wr.alloc (.cells #[.int .i64 x.at_, .string (bstr x.who), .bool x.house, .string (bstr x.key), .int .i64 x.time] 93) = w2 at *
      have x0 : w2.cell? ⟨xb, 0, none⟩ = some (.int .i64 x.at_) := HKX2.out.cell 0
      have x3 : w2.cell? ⟨xb, 3, none⟩ = some (.string (bstr x.key)) := HKX2.out.cell 3
      have SKIP : Hid (¬ (fr ≤ x.at_ ∧ x.at_ < to) → keysIn fr to (s.take (k + 1)) = ks) := Lib.hid (fun h => by
        rw [HNX.out, if_neg (by unfold inSpan; simpa using h), List.append_nil])
      by_cases h1 : fr ≤ x.at_
      · by_cases h2 : x.at_ < to
        · have HKS : Hid (keysIn fr to (s.take (k + 1)) = ks ++ [x.key]) := Lib.hid (by rw [HNX.out, if_pos (by unfold inSpan; simp [h1, h2])])
          clear SKIP HNX
          have hcnt : ks.count x.key ≤ 3000 := Nat.le_trans List.count_le_length hkl
          have hlk0 := HM2.out.look (T := 91) (Maps.string_keyed Tryz.underlying9) Tryz.underlying91 (fun w => by kernel_rfl) (keyT x.key HKZ.out) (by trivial)
          rw [talF_get HT.out] at hlk0
          have hlk := hlk0
          clear hlk0
          have HTN := Lib.hid (talF_put HT.out x.key)
          clear HT
          generalize ks.count x.key = cn at *
          have hov : IntKind.i64.wrap ((cn : Int) + 1) = (cn : Int) + 1 := IntWalk.i64_in _ (by omega)
          have HKEY := Lib.hid (keyT x.key HKZ.out)
          have hnb : n < 3000 := by omega
          go_wp2_with (at_mapUpdate; refine vmap_update rfl _ _ _ 91 rfl HM2.out (Maps.string_keyed Tryz.underlying9) Tryz.underlying91 (by unfold maxLen; omega) (.string x.key) (.int .i64 ((cn : Int) + 1)) rfl rfl rfl HKEY.out (by trivial) ?_; intro w6 HM6 HG6)
          have HB6 := Lib.hid (HB2.out.grown HG6.out HB2.out.size (fun j e => by cases e; exact HMB.out))
          clear x0 x3 hlk h1 h2
          go_roundw
          case rel => first | exact ⟨k + 1, n + 1, _, by omega, by go_num, by omega, HM6, by rw [HKS.out]; exact HTN, HB6⟩ | (repeat (apply Exists.intro); (refine And.intro ?_ ?_; rotate_left; (repeat' (first | exact rfl | apply And.intro)); exact ⟨k + 1, n + 1, _, by omega, by go_num, by omega, HM6, by rw [HKS.out]; exact HTN, HB6⟩))
          case measure => simp [intOf]; omega
        · have HKS := Lib.hid (SKIP.out (fun e => h2 e.2))
          clear SKIP HNX
          go_wp2_with fail
          clear x0 x3 h1 h2
          go_roundw
          case rel => first | exact ⟨k + 1, n, f, by omega, by go_num, by omega, HM2, by rw [HKS.out]; exact HT, HB2⟩ | (repeat (apply Exists.intro); (refine And.intro ?_ ?_; rotate_left; (repeat' (first | exact rfl | apply And.intro)); exact ⟨k + 1, n, f, by omega, by go_num, by omega, HM2, by rw [HKS.out]; exact HT, HB2⟩))
          case measure => simp [intOf]; omega
      · have HKS := Lib.hid (SKIP.out (fun e => h1 e.1))
        clear SKIP HNX
        go_wp2_with fail
        clear x0 x3 h1
        go_roundw
        case rel => first | exact ⟨k + 1, n, f, by omega, by go_num, by omega, HM2, by rw [HKS.out]; exact HT, HB2⟩ | (repeat (apply Exists.intro); (refine And.intro ?_ ?_; rotate_left; (repeat' (first | exact rfl | apply And.intro)); exact ⟨k + 1, n, f, by omega, by go_num, by omega, HM2, by rw [HKS.out]; exact HT, HB2⟩))
        case measure => simp [intOf]; omega
    · have HKA : Hid (keysIn fr to (s.take k) = keysIn fr to s) := Lib.hid (by rw [List.take_of_length_le (by omega)])
      rw [HKA.out] at HT
      clear HKA
      have hkl : (keysIn fr to s).length ≤ 3000 := Nat.le_trans (keysIn_len _ _ _) hls
      have HKC : Hid (∀ x ∈ keysIn fr to s, x.length ≤ maxLen) := Lib.hid (keysIn_sz H0.out)
      generalize hks : keysIn fr to s = ks at *
      have HKS := Lib.hid hks
      clear hks
      obtain ⟨D, hD1, hD2, hD3⟩ := HM.out
      have HD3 := Lib.hid hD3
      clear hD2 hD3
      have HST := Lib.hid (coll_start HT.out HD3.out)
      have HOW := Lib.hid hD1
      clear hD1
      go_wp2_with (at_range; refine wpList_range_own _ rfl _ 91 rfl 9 3 (Maps.string_keyed Tryz.underlying9) Tryz.underlying91 _ mb n D rfl HOW.out ?_; intro w0 hrg0 hg0 hs0)
      go_frame
      have HRG0 := Lib.hid hrg0
      have HB0 := Lib.hid (HB.out.grown hg0 HB.out.size (fun j e => by cases e))
      obtain ⟨rb, hrb⟩ : ∃ rb, rb = wr.heap.size := ⟨_, rfl⟩
      rw [← hrb] at HRG0 ⊢
      have HRB : Hid (w1.heap.size ≤ rb) := Lib.hid (by rw [hrb]; exact HB.out.size)
      clear hrg0 hg0 hs0 hrb
      go_loopw [12] (fun vo wz => ∃ (left : Lit → Bool) (cnt : Nat) (ts : List Tal), Hid (wz.ranges Tryz.prog 9 vR mb rb n D left cnt) ∧ Hid (wz.ownsRow w1.heap.size 51 2 vo ts.length (ts.flatMap talCells)) ∧ Hid (Coll ks left ts) ∧ Hid (Below w1.heap.size w1 wz)) (fun _ wz => wz.rangeLeft mb rb)
      case atStart => exact ⟨_, _, [], HRG0, Lib.hid (World.ownsRow_nil _ _ _ _), HST, HB0⟩
      case round =>
        clear HRG0 HB0 HST HB HM HOW
        obtain ⟨left, cnt, ts, HRG, HO, HC, HB⟩ := hrel
        have htl : ts.length ≤ 3000 := Nat.le_trans (tal_len HC.out.nd (fun p hp => ⟨((HC.out.mem p).1 hp).1, ((HC.out.mem p).1 hp).2.1⟩)) hkl
        have hBz := HB.out.size
        go_wp2_with (at_next; refine wpList_next_ranges _ rfl _ rfl 9 (Maps.string_keyed Tryz.underlying9) vR Go.Proofs.encStr (id : Value → Value) (fun key kl h => by obtain ⟨x, hx, _⟩ := Maps.keyOf_str Tryz.underlying9 h; exact ⟨x, hx⟩) (fun v y _ => ⟨v, rfl⟩) mb rb n _ _ _ rfl HRG.out ?_ ?_)
        · intro hc0 hl0
          have HE := Lib.hid (coll_end HC.out hl0)
          have HND := Lib.hid HC.out.nd
          clear HC HRG hc0 hl0
          go_wp2_with fail
          refine (sortT_any _ ts w1.heap.size wr HO.out htl (fun p hp => ?_)).mono ?_
          · obtain ⟨a, b⟩ := (HE.out p).1 hp
            have := List.count_le_length (a := p.1) (l := ks)
            exact ⟨HKC.out _ a, by omega, by omega⟩
          rintro e w7 ⟨rfl, out, hp, hso, hrd, hb⟩
          have HB7 := Lib.hid (HB1.out.trans ((HB.out.trans hb).mono HB1.out.size))
          have HRD := Lib.hid hrd
          have HTO : Hid (TalOk ks out) := Lib.hid ⟨hso HND.out, fun p => by rw [hp.mem_iff]; exact HE.out p⟩
          clear hp hso hrd hb
          go_wp2_with fail
          go_ret2
          exact ⟨_, out, by rw [HF.out]; rfl, HRD.out, fun _ => by rw [HKS.out]; exact HTO.out, fun h => absurd HF.out h, HB7.out⟩
        · intro x c kl y1 y2 w3 cnt1 hkey hlk hv hat hrg1 hlt hgr hsz hen
          obtain ⟨x', ex, rfl, hxl⟩ := Maps.keyOf_str Tryz.underlying9 hkey
          obtain rfl := encStr_inj ex
          obtain rfl : y1 = .held c := (congrArg Prod.fst (Option.some.inj hv)).symm
          obtain rfl := coll_val HT.out HD3.out HC.out hat
          have HRG1 := Lib.hid hrg1
          have HCN := Lib.hid (coll_step HC.out hlk)
          have HLT : Hid (cnt1 < cnt) := Lib.hid hlt
          have HLE := Lib.hid HRG.out.left_eq
          have HNB := Lib.hid (ranges_notRow HRG.out HO.out)
          have HO3 := Lib.hid (own_kept HO.out hgr (Ne.symm HNB.out.2))
          have HB3 := Lib.hid (HB.out.grown hgr hBz (fun j e => by cases e; exact HRB.out))
          have hen' : (Instr.entry (.pointer (some ⟨rb, 0, none⟩))).run Tryz.prog w3 = .ok (.tuple #[.string (bstr x), .int .i64 (ks.count x : Int)]) w3 := hen
          clear ex hkey hlk hv hat hrg1 hlt hgr hsz hen HRG HC HO HB HNB
          generalize ks.count x = cn at *
          have hB3 := HB3.out.size
          go_wp2_with (at_builtin; go_must (refine app_new (w := w3) rfl (.tmp 58) (.tmp 62) 46 rfl 51 (.agg #[.string ⟨#[]⟩, .int .i64 0]) 2 24 Tryz.underlying46 talInfo rfl (by decide) (m := 1) [.string (bstr x), .int .i64 (cn : Int)] HO3.out hB3 rfl rfl rfl (by decide) (by simp [Value.oneCell']) (by unfold maxLen; omega) (by omega) ?_); intro g8 c8 w8 HO8 HG8 HE8 HL8)
          have HNB := Lib.hid (ranges_notRow HRG1.out HO3.out)
          have HRG8 := Lib.hid (HRG1.out.kept HG8.out HNB.out.1 HNB.out.2)
          have HB8 := Lib.hid (HB3.out.grown HG8.out hB3 (fun j hj => (HO3.out.lt j hj).1))
          have HON : Hid (w8.ownsRow w1.heap.size 51 2 (.slice (some ⟨g8, 0, none⟩) (ts.length + 1) c8) (ts ++ [(x, (cn : Int))]).length ((ts ++ [(x, (cn : Int))]).flatMap talCells)) := Lib.hid (by
            have h9 := HO8.out
            rw [List.flatMap_append, List.length_append]
            simpa [talCells] using h9)
          clear hen' HO3 HB3 HO8 HE8 HL8 HNB
          go_roundw
          case rel => first | exact ⟨_, cnt1, _, HRG8, HON, HCN, HB8⟩ | (repeat (apply Exists.intro); (refine And.intro ?_ ?_; rotate_left; (repeat' (first | exact rfl | apply And.intro)); exact ⟨_, cnt1, _, HRG8, HON, HCN, HB8⟩))
          case measure => rw [HRG8.out.left_eq, HLE.out]; exact HLT.out
end Go.Proofs.YtgbpnghgcffkbaaGreatDoor
