/-
  'Most' of the reference of chapter 10.
-/
import Derived.Test.YtgbpnghgcffkbaaGreatDoorMost
import Derived.Test.YtgbpnghgcffkbaaGreatDoorSortS
import Derived.Test.YtgbpnghgcffkbaaGreatDoorInsTal
namespace Go.Proofs.YtgbpnghgcffkbaaGreatDoor
open Go.RowKit
set_option linter.unusedVariables false
set_option linter.unusedSimpArgs false

theorem str_info' : (Tryz.prog.info? 9).map (fun i => (i.zero, i.size, i.bytes)) = some (some (.string ⟨#[]⟩), 1, 16) := by kernel_rfl
theorem owns_at {w : World} {B : Nat} {v : Value} {ts : List (List UInt8)} (h : w.ownsRow B 9 1 v ts.length (ts.map strV)) {k : Nat} (hk : k < ts.length) : ∃ g c, v = .slice (some ⟨g, 0, none⟩) ts.length c ∧ B ≤ g ∧ w.cell? ⟨g, k, none⟩ = some (.string (bstr ts[k])) := by
  rcases h.2 with ⟨_, h2⟩ | ⟨g, cap, cur, rfl, h1, h2, h3, h4, h5, h6⟩
  · omega
  · refine ⟨g, cap, rfl, h1, ?_⟩
    rw [cell_of_row w g k cur _ (0, 0) h2, ← Array.getElem?_toList]
    have := congrArg (fun l => l[k]?) h6
    rw [Nat.mul_one] at this
    simp only [List.getElem?_take_of_lt hk, List.getElem?_map, List.getElem?_eq_getElem hk, Option.map_some] at this
    exact this
theorem tal_own_at {w : World} {B : Nat} {v : Value} {ts : List Tal} (h : w.ownsRow B 51 2 v ts.length (ts.flatMap talCells)) {k : Nat} (hk : k < ts.length) : ∃ g c, v = .slice (some ⟨g, 0, none⟩) ts.length c ∧ B ≤ g ∧ w.cell? ⟨g, k * 2 + 1, none⟩ = some (.int .i64 ts[k].2) := by
  rcases h.2 with ⟨_, h2⟩ | ⟨g, cap, cur, rfl, h1, h2, h3, h4, h5, h6⟩
  · omega
  · refine ⟨g, cap, rfl, h1, ?_⟩
    rw [cell_of_row w g (k * 2 + 1) cur _ (0, 0) h2, ← Array.getElem?_toList]
    have hfl := flat_at (f := talCells) (sz := 2) (fun _ => rfl) ts k hk
    have h7 := congrArg (fun l => l[1]?) hfl
    simp only [List.getElem?_take_of_lt (show 1 < 2 by decide), List.getElem?_drop] at h7
    rw [← h6, List.getElem?_take_of_lt (by omega)] at h7
    exact h7
/-- .. of the row that an insertion leaves. -/
theorem tal_put (ts : List Tal) (p : Nat) (k : List UInt8) (n : Int) : (ts.flatMap talCells).take (p * 2) ++ [.string (bstr k), .int .i64 n] ++ (ts.flatMap talCells).drop (p * 2) = (ts.take p ++ (k, n) :: ts.drop p).flatMap talCells := by
  have key : ∀ (p : Nat) (ts : List Tal), (ts.flatMap talCells).take (p * 2) = (ts.take p).flatMap talCells ∧ (ts.flatMap talCells).drop (p * 2) = (ts.drop p).flatMap talCells := by
    intro p
    induction p with
    | zero => intro ts; simp
    | succ p ih =>
      intro ts
      cases ts with
      | nil => simp
      | cons a ts =>
        obtain ⟨h1, h2⟩ := ih ts
        rw [List.flatMap_cons, show (p + 1) * 2 = p * 2 + 2 by omega]
        show ([Value.string (bstr a.1), Value.int .i64 a.2] ++ ts.flatMap talCells).take (p * 2 + 2) = _ ∧ ([Value.string (bstr a.1), Value.int .i64 a.2] ++ ts.flatMap talCells).drop (p * 2 + 2) = _
        simp only [List.cons_append, List.nil_append, List.take_succ_cons, List.drop_succ_cons, h1, h2, List.flatMap_cons]
        exact ⟨rfl, trivial⟩
  obtain ⟨h1, h2⟩ := key p ts
  rw [h1, h2, List.flatMap_append, List.flatMap_cons]
  simp [talCells]
set_option maxRecDepth 100000 in
set_option maxHeartbeats 16000000 in
theorem hMost_any (v : Value) (s : List Shn) (fr to : Int) (w : World) (h0 : (Rp.sl shnRp).ok w (· < w.heap.size) [v] s) :
    Calls Tryz.prog 19 #[v, .int .i64 fr, .int .i64 to] w (MostPost s fr to w) := by
  obtain ⟨A, cc, rfl, hl, hc, hnil⟩ := Rp.sl_open h0
  unfold maxLen at hc
  have H0 := Lib.hid h0
  clear h0
  go_enter Tryz.func19, Tryz.ntmps19
  go_wp2_with fail
  refine (hCheckShown_any _ s w H0.out).mono ?_
  rintro e w1 ⟨rfl, hb⟩
  have HB1 := Lib.hid hb
  clear hb
  by_cases ha : shownFault s = 0
  case neg =>
    have HF : Hid (mostF s fr to = shownFault s) := Lib.hid (mostF_1 ha)
    have HN := Lib.hid ha
    have hn : (shownFault s != 0) = true := by simpa using ha
    clear ha
    generalize shownFault s = ff at *
    go_wp2_with fail
    go_ret2
    exact most_bad HF.out HN.out HB1.out
  have HA := Lib.hid ha
  have hls := shownF_len ha
  rw [ha]
  clear ha
  go_wp2_with fail
  refine (hwithin_any fr 0 253402300800 w1).mono ?_
  rintro e w1' ⟨rfl, hw⟩
  subst hw
  cases q3 : withinB fr 0 253402300800 with
  | false =>
    have HF : Hid (mostF s fr to = 1) := Lib.hid (mostF_2 HA.out (.inl q3))
    clear q3
    go_wp2_with fail
    go_ret2
    exact most_bad HF.out (by decide) HB1.out
  | true =>
  have Q3 := Lib.hid q3
  clear q3
  go_wp2_with fail
  refine (hwithin_any to 0 253402300800 _).mono ?_
  rintro e w1'' ⟨rfl, hw⟩
  subst hw
  cases q4 : withinB to 0 253402300800 with
  | false =>
    have HF : Hid (mostF s fr to = 1) := Lib.hid (mostF_2 HA.out (.inr q4))
    clear q4
    go_wp2_with fail
    go_ret2
    exact most_bad HF.out (by decide) HB1.out
  | true =>
  have HF : Hid (mostF s fr to = 0) := Lib.hid (mostF_3 HA.out Q3.out q4)
  clear q4 Q3
  generalize w1'' = w1 at *
  go_wp2_with fail
  go_loopw [9, 31] (fun vo vi wr => ∃ (k : Nat) (ao : Value), vo = ao ∧ k ≤ s.length ∧ vi = .int .i64 k ∧ Hid (wr.ownsRow w1.heap.size 9 1 ao (keysIn fr to (s.take k)).length ((keysIn fr to (s.take k)).map strV)) ∧ Hid (Below w1.heap.size w1 wr)) (fun _ vi _ => s.length - (intOf vi).toNat)
  case atStart => exact ⟨0, _, rfl, by omega, rfl, by rw [List.take_zero]; exact Lib.hid (World.ownsRow_nil _ _ _ _), Below.refl _ _⟩
  case round =>
    obtain ⟨k, vo, rfl, hk, rfl, HO, HB⟩ := hrel
    by_cases hlt : k < s.length
    · obtain ⟨ad, c', e1, hadb, c0, c1, c2, c3, c4, hz⟩ := shn_at (Rp.ext _ H0.out (HB1.out.trans (HB.out.mono HB1.out.size))) hlt
      cases e1
      clear hz
      have HNX := Lib.hid (keysIn_next (fr := fr) (to := to) hlt)
      have hkl : (keysIn fr to (s.take k)).length ≤ 3000 := Nat.le_trans (keysIn_len _ _ _) (by rw [List.length_take]; omega)
      generalize keysIn fr to (s.take k) = ks at *
      generalize hx : s[k] = x at *
      clear hx
      have hal := (Below.refl wr.heap.size wr).alloc (Nat.le_refl _) (.cells #[.int .i64 x.at_, .string (bstr x.who), .bool x.house, .string (bstr x.key), .int .i64 x.time] 93)
      have HB2 := Lib.hid (HB.out.trans (hal.mono HB.out.size))
      have HO2 := Lib.hid (own_below HO.out hal)
      have HKX2 := Lib.hid (Blk.new wr 93 [.int .i64 x.at_, .string (bstr x.who), .bool x.house, .string (bstr x.key), .int .i64 x.time])
      clear hal HB HO
      go_upto_region 10 with fail
      clear c0 c1 c2 c3 c4
      obtain ⟨xb, hxb⟩ : ∃ xb, xb = wr.heap.size := ⟨_, rfl⟩
      rw [← hxb] at HKX2 ⊢
      clear hxb
      generalize wr.alloc (.cells #[.int .i64 x.at_, .string (bstr x.who), .bool x.house, .string (bstr x.key), .int .i64 x.time] 93) = w2 at *
      have x0 : w2.cell? ⟨xb, 0, none⟩ = some (.int .i64 x.at_) := HKX2.out.cell 0
      have x3 : w2.cell? ⟨xb, 3, none⟩ = some (.string (bstr x.key)) := HKX2.out.cell 3
      have SKIP : Hid (¬ (fr ≤ x.at_ ∧ x.at_ < to) → keysIn fr to (s.take (k + 1)) = ks) := Lib.hid (fun h => by
        rw [HNX.out, if_neg (by unfold inSpan; simpa using h), List.append_nil])
      have hB2 := HB2.out.size
      by_cases h1 : fr ≤ x.at_
      · by_cases h2 : x.at_ < to
        · have HKS : Hid (keysIn fr to (s.take (k + 1)) = ks ++ [x.key]) := Lib.hid (by rw [HNX.out, if_pos (by unfold inSpan; simp [h1, h2])])
          clear SKIP HNX
          have hml : (ks.map strV).length = ks.length := List.length_map _
          go_wp2_with (at_builtin; go_must (refine app_new (w := w2) rfl (.tmp 45) (.tmp 48) 84 rfl 9 (.string ⟨#[]⟩) 1 16 Tryz.underlying84 str_info' rfl (by decide) (m := 1) [.string (bstr x.key)] HO2.out hB2 rfl rfl rfl (by decide) (by simp [Value.oneCell']) (by unfold maxLen; omega) (by omega) ?_); intro g8 c8 w8 HO8 HG8 HE8 HL8)
          have HB8 := Lib.hid (HB2.out.grown HG8.out hB2 (fun j hj => (HO2.out.lt j hj).1))
          have HON : Hid (w8.ownsRow w1.heap.size 9 1 (.slice (some ⟨g8, 0, none⟩) (ks.length + 1) c8) (ks ++ [x.key]).length ((ks ++ [x.key]).map strV)) := Lib.hid (by
            have h9 := HO8.out
            rw [List.map_append, List.length_append]
            exact h9)
          clear x0 x3 h1 h2 HO2 HB2 HO8 HG8 HE8 HL8
          go_roundw
          case rel => first | exact ⟨k + 1, _, rfl, by omega, by go_num, by rw [HKS.out]; exact HON, HB8⟩ | (repeat (apply Exists.intro); (refine And.intro ?_ ?_; rotate_left; (repeat' (first | exact rfl | apply And.intro)); exact ⟨k + 1, _, rfl, by omega, by go_num, by rw [HKS.out]; exact HON, HB8⟩))
          case measure => simp [intOf]; omega
        · have HKS := Lib.hid (SKIP.out (fun e => h2 e.2))
          clear SKIP HNX
          go_wp2_with fail
          clear x0 x3 h1 h2
          go_roundw
          case rel => first | exact ⟨k + 1, _, rfl, by omega, by go_num, by rw [HKS.out]; exact HO2, HB2⟩ | (repeat (apply Exists.intro); (refine And.intro ?_ ?_; rotate_left; (repeat' (first | exact rfl | apply And.intro)); exact ⟨k + 1, _, rfl, by omega, by go_num, by rw [HKS.out]; exact HO2, HB2⟩))
          case measure => simp [intOf]; omega
      · have HKS := Lib.hid (SKIP.out (fun e => h1 e.1))
        clear SKIP HNX
        go_wp2_with fail
        clear x0 x3 h1
        go_roundw
        case rel => first | exact ⟨k + 1, _, rfl, by omega, by go_num, by rw [HKS.out]; exact HO2, HB2⟩ | (repeat (apply Exists.intro); (refine And.intro ?_ ?_; rotate_left; (repeat' (first | exact rfl | apply And.intro)); exact ⟨k + 1, _, rfl, by omega, by go_num, by rw [HKS.out]; exact HO2, HB2⟩))
        case measure => simp [intOf]; omega
    · have HKA : Hid (keysIn fr to (s.take k) = keysIn fr to s) := Lib.hid (by rw [List.take_of_length_le (by omega)])
      rw [HKA.out] at HO
      clear HKA
      have hkl : (keysIn fr to s).length ≤ 3000 := Nat.le_trans (keysIn_len _ _ _) hls
      have HKC : Hid (∀ x ∈ keysIn fr to s, x.length ≤ maxLen) := Lib.hid (keysIn_sz H0.out)
      generalize hks : keysIn fr to s = ks0 at *
      have HKS := Lib.hid hks
      clear hks
      go_wp2_with fail
      refine (sortS_any _ ks0 w1.heap.size wr HO.out (by omega)).mono ?_
      rintro e w2 ⟨rfl, ks, hpm, hso, hown, hg⟩
      have HPM := Lib.hid hpm
      have HSO := Lib.hid hso
      have HB2 := Lib.hid (HB.out.grown hg HB.out.size (fun j hj => (HO.out.lt j hj).1))
      have hkl2 : ks.length ≤ 3000 := by rw [hpm.length_eq]; exact hkl
      have HKC2 : Hid (∀ x ∈ ks, x.length ≤ maxLen) := Lib.hid (fun x hx => HKC.out x (hpm.mem_iff.1 hx))
      have HOK := Lib.hid hown
      clear hpm hso hown hg HO HB HKC
      obtain ⟨Ak, ck, hvk, hck1, hck2, _⟩ := own_form HOK.out
      subst hvk
      unfold maxLen at hck2
      go_wp2_with fail
      go_loopw [12, 13] (fun vo vi wz => ∃ (i : Nat) (ao : Value) (ts : List Tal), vo = ao ∧ vi = .int .i64 i ∧ i ≤ ks.length ∧ Hid (wz.ownsRow w2.heap.size 51 2 ao ts.length (ts.flatMap talCells)) ∧ Hid (Part ks i ts) ∧ Hid (Below w2.heap.size w2 wz)) (fun _ vi _ => ks.length - (intOf vi).toNat)
      case atStart => exact ⟨0, _, [], rfl, rfl, by omega, Lib.hid (World.ownsRow_nil _ _ _ _), Lib.hid (part_zero _), Below.refl _ _⟩
      case round =>
        obtain ⟨i, vo, ts, rfl, rfl, hi, HO, HP, HB⟩ := hrel
        obtain ⟨Ao, co, hvo, hco1, hco2, _⟩ := own_form HO.out
        subst hvo
        unfold maxLen at hco2
        have HOKz := Lib.hid (own_below HOK.out HB.out)
        have htl := part_len HP.out
        by_cases hlt : i < ks.length
        · obtain ⟨gk, ck', e1, hbk, k0⟩ := owns_at HOKz.out hlt
          injection e1 with e1 e2 e3
          subst e1 e3
          clear e2
          have K0 := Lib.hid k0
          have HKE : Hid (∃ kk, kk = ks[i]) := Lib.hid ⟨_, rfl⟩
          obtain ⟨kk, hkk⟩ := HKE.out
          rw [← hkk] at K0
          have HKK := Lib.hid hkk
          clear hkk k0 HKE
          go_wp2_with fail
          go_loopw [14] (fun vn wy => ∃ (n q : Nat), vn = .int .i64 n ∧ i + n ≤ ks.length ∧ Hid (∀ m, (hm : m < n) → ∀ h : i + m < ks.length, ks[i + m] = kk) ∧ wy = wr.drewN q) (fun vn _ => ks.length - (intOf vn).toNat)
          case atStart => exact ⟨0, 0, rfl, by omega, Lib.hid (fun m hm => absurd hm (by omega)), rfl⟩
          case round =>
            obtain ⟨n, q, rfl, hin, HR, rfl⟩ := hrel
            have hov : IntKind.i64.wrap ((i : Int) + (n : Int)) = (i : Int) + (n : Int) := IntWalk.i64_in _ (by omega)
            have hnn : (0 : Int) ≤ (i : Int) + (n : Int) := by omega
            have htn : ((i : Int) + (n : Int)).toNat = i + n := by omega
            have hi0 : (0 : Int) ≤ (i : Int) := by omega
            have hi1 : (i : Int) < (ks.length : Int) := by omega
            have STOP : Hid (0 < n → (∀ hl : i + n < ks.length, ks[i + n] ≠ kk) → ∀ p, p ≤ ts.length → (∀ h0 : 0 < p, ∀ h : p - 1 < ts.length, (n : Int) ≤ ts[p - 1].2) → (∀ j, p ≤ j → (hj : j < ts.length) → ts[j].2 < (n : Int)) → Part ks (i + n) (ts.take p ++ (kk, (n : Int)) :: ts.drop p)) := Lib.hid (fun hn he p hp h1 h2 => part_next HSO.out HP.out hin hn HKK.out (fun m hm => HR.out m hm (by omega)) he hp (fun h0 => h1 h0 (by omega)) h2)
            by_cases hil : i + n < ks.length
            · have hil' : (i : Int) + (n : Int) < (ks.length : Int) := by omega
              obtain ⟨gk', ck'', e1, _, kn⟩ := owns_at HOKz.out hil
              injection e1 with e1 e2 e3
              injection e1 with e1
              injection e1 with e1
              subst e1
              clear e2 e3
              have HKN : Hid (∃ kz, kz = ks[i + n]) := Lib.hid ⟨_, rfl⟩
              obtain ⟨kz, hkz⟩ := HKN.out
              rw [← hkz] at kn
              have HKZ := Lib.hid hkz
              clear hkz HKN
              have k0 := K0.out
              by_cases heq : kz = kk
              · have hbq : ((bstr kz).toList == (bstr kk).toList) = true := by rw [heq]; simp
                have HRN : Hid (∀ m, (hm : m < n + 1) → ∀ h : i + m < ks.length, ks[i + m] = kk) := Lib.hid (fun m hm h => by
                  rcases Nat.lt_or_ge m n with e | e
                  · exact HR.out m e h
                  · obtain rfl : m = n := by omega
                    rw [← HKZ.out]; exact heq)
                clear heq STOP
                go_wp2_with fail
                go_quiet (fail)
                try rw [hbq]
                clear kn k0 hbq
                go_wp2_with fail
                go_roundw
                case rel => first | exact ⟨n + 1, q + nq, by go_num, by omega, HRN, by first | rfl | rw [World.drewN_drewN]⟩ | (repeat (apply Exists.intro); (refine And.intro ?_ ?_; rotate_left; (repeat' (first | exact rfl | apply And.intro)); exact ⟨n + 1, q + nq, by go_num, by omega, HRN, by first | rfl | rw [World.drewN_drewN]⟩))
                case measure => simp [intOf]; omega
              · have hbq : ((bstr kz).toList == (bstr kk).toList) = false := str_bne (fun e => heq (bstr_inj e))
                have hn0 : 0 < n := by
                  rcases Nat.eq_zero_or_pos n with e | e
                  · subst e
                    exact absurd (HKZ.out.trans HKK.out.symm) heq
                  · exact e
                have STOP2 := Lib.hid (STOP.out hn0 (fun hl => by rw [← HKZ.out]; exact heq))
                clear heq STOP
                go_wp2_with fail
                go_quiet (fail)
                try rw [hbq]
                clear kn k0 hbq
                go_wp2_with fail
                have HOd : Hid ((wr.drewN (q + nq)).ownsRow w2.heap.size 51 2 (.slice Ao ts.length co) ts.length (ts.flatMap talCells)) := Lib.hid (own_drewN HO.out _)
                go_loopw [15] (fun vp wy => ∃ (p q2 : Nat), vp = .int .i64 p ∧ p ≤ ts.length ∧ Hid (∀ j, p ≤ j → (hj : j < ts.length) → ts[j].2 < (n : Int)) ∧ wy = wr.drewN q2) (fun vp _ => (intOf vp).toNat)
                case atStart => exact ⟨ts.length, _, rfl, Nat.le_refl _, Lib.hid (fun j h hj => absurd hj (by omega)), by first | rfl | rw [World.drewN_drewN]⟩
                case round =>
                  obtain ⟨p, q2, rfl, hp, HG, rfl⟩ := hrel
                  by_cases hp0 : 0 < p
                  · obtain ⟨gt, ct, e1, hbt, t1⟩ := tal_own_at HO.out (show p - 1 < ts.length by omega)
                    injection e1 with e1 e2 e3
                    subst e1 e3
                    clear e2
                    have HTP : Hid (∃ mz, mz = (ts[p - 1]'(by omega)).2) := Lib.hid ⟨_, rfl⟩
                    obtain ⟨mz, hmz⟩ := HTP.out
                    rw [← hmz] at t1
                    have HMZ := Lib.hid hmz
                    clear hmz HTP
                    have hpi : (0 : Int) < (p : Int) := by omega
                    have hpw : IntKind.i64.wrap ((p : Int) - 1) = (p : Int) - 1 := IntWalk.i64_in _ (by omega)
                    have hpn : (0 : Int) ≤ (p : Int) - 1 := by omega
                    have hpt : ((p : Int) - 1).toNat = p - 1 := by omega
                    have hpl : (p : Int) - 1 < (ts.length : Int) := by omega
                    by_cases hlow : mz < (n : Int)
                    · have HGN : Hid (∀ j, p - 1 ≤ j → (hj : j < ts.length) → ts[j].2 < (n : Int)) := Lib.hid (fun j h hj => by
                        rcases Nat.lt_or_ge (p - 1) j with e | e
                        · exact HG.out j (by omega) hj
                        · obtain rfl : j = p - 1 := by omega
                          rw [← HMZ.out]; exact hlow)
                      go_wp2_with fail
                      clear t1
                      go_roundw
                      case rel => first | exact ⟨p - 1, q2, by (first | go_num | (congr 1; omega)), by omega, HGN, rfl⟩ | (repeat (apply Exists.intro); (refine And.intro ?_ ?_; rotate_left; (repeat' (first | exact rfl | apply And.intro)); exact ⟨p - 1, q2, by (first | go_num | (congr 1; omega)), by omega, HGN, rfl⟩))
                      case measure => simp [intOf]; omega
                    · have HPT := Lib.hid (STOP2.out p hp (fun h0 h => by rw [← HMZ.out]; omega) HG.out)
                      have k0 : (wr.drewN q2).cell? ⟨gk, i, none⟩ = some (.string (bstr kk)) := K0.out
                      have hal := (Below.refl (wr.drewN q2).heap.size (wr.drewN q2)).alloc (Nat.le_refl _) (.cells #[.string (bstr kk), .int .i64 (n : Int)] 51)
                      have HOv := Lib.hid (own_below (own_drewN HO.out q2) hal)
                      have HVB := Lib.hid (Blk.new (wr.drewN q2) 51 [.string (bstr kk), .int .i64 (n : Int)])
                      have HBv := Lib.hid ((below_drewN HB.out q2).trans (hal.mono HB.out.size))
                      have HNE : Hid (some (wr.drewN q2).heap.size ≠ (Value.slice (some ⟨gt, 0, none⟩) ts.length co).ownBlock) := Lib.hid (fun e => absurd (HO.out.lt _ e.symm).2 (Nat.lt_irrefl _))
                      have HU1 : Hid (∀ u ∈ [Value.string (bstr kk), Value.int .i64 (n : Int)], u.oneCell' = true) := Lib.hid (by simp [Value.oneCell'])
                      have HX1 : Hid (∀ u ∈ ts.flatMap talCells, u.oneCell' = true) := Lib.hid (fun u hu => by obtain ⟨x, _, hx⟩ := List.mem_flatMap.1 hu; simp [talCells] at hx; rcases hx with rfl | rfl <;> rfl)
                      have hov2 : IntKind.i64.wrap ((i : Int) + (n : Int)) = (i : Int) + (n : Int) := IntWalk.i64_in _ (by omega)
                      clear hal
                      go_wp2_with fail
                      clear k0
                      try clear t1
                      refine (insTal_any _ ts.length p w2.heap.size (wr.drewN q2).heap.size _ _ _ HOv.out HBv.out.size (by omega) (by omega) rfl HU1.out HX1.out HVB.out HNE.out).mono ?_
                      rintro e w6 ⟨g6, c6, rfl, ho, hg, _⟩
                      have HO6 : Hid (w6.ownsRow w2.heap.size 51 2 (.slice (some ⟨g6, 0, none⟩) (ts.length + 1) c6) (ts.take p ++ (kk, (n : Int)) :: ts.drop p).length ((ts.take p ++ (kk, (n : Int)) :: ts.drop p).flatMap talCells)) := Lib.hid (by
                        have h := ho
                        rw [tal_put] at h
                        have hl : (ts.take p ++ (kk, (n : Int)) :: ts.drop p).length = ts.length + 1 := by
                          rw [List.length_append, List.length_cons, List.length_take, List.length_drop]; omega
                        rw [hl]
                        exact h)
                      have HB6 := Lib.hid (HBv.out.grown hg HBv.out.size (fun j hj => (HOv.out.lt j hj).1))
                      clear ho hg HOv HVB HBv HNE HU1 HX1
                      go_wp2_with fail
                      go_roundw
                      case rel => first | exact ⟨i + n, _, _, rfl, by go_num, by omega, HO6, HPT, HB6⟩ | (repeat (apply Exists.intro); (refine And.intro ?_ ?_; rotate_left; (repeat' (first | exact rfl | apply And.intro)); exact ⟨i + n, _, _, rfl, by go_num, by omega, HO6, HPT, HB6⟩))
                      case measure => simp [intOf]; omega
                  · obtain rfl : p = 0 := by omega
                    have HPT := Lib.hid (STOP2.out 0 (Nat.zero_le _) (fun h0 => absurd h0 (by omega)) HG.out)
                    have hpi : ¬ (0 : Int) < ((0 : Nat) : Int) := by omega
                    have k0 : (wr.drewN q2).cell? ⟨gk, i, none⟩ = some (.string (bstr kk)) := K0.out
                    have hal := (Below.refl (wr.drewN q2).heap.size (wr.drewN q2)).alloc (Nat.le_refl _) (.cells #[.string (bstr kk), .int .i64 (n : Int)] 51)
                    have HOv := Lib.hid (own_below (own_drewN HO.out q2) hal)
                    have HVB := Lib.hid (Blk.new (wr.drewN q2) 51 [.string (bstr kk), .int .i64 (n : Int)])
                    have HBv := Lib.hid ((below_drewN HB.out q2).trans (hal.mono HB.out.size))
                    have HNE : Hid (some (wr.drewN q2).heap.size ≠ (Value.slice Ao ts.length co).ownBlock) := Lib.hid (fun e => absurd (HO.out.lt _ e.symm).2 (Nat.lt_irrefl _))
                    have HU1 : Hid (∀ u ∈ [Value.string (bstr kk), Value.int .i64 (n : Int)], u.oneCell' = true) := Lib.hid (by simp [Value.oneCell'])
                    have HX1 : Hid (∀ u ∈ ts.flatMap talCells, u.oneCell' = true) := Lib.hid (fun u hu => by obtain ⟨x, _, hx⟩ := List.mem_flatMap.1 hu; simp [talCells] at hx; rcases hx with rfl | rfl <;> rfl)
                    have hov2 : IntKind.i64.wrap ((i : Int) + (n : Int)) = (i : Int) + (n : Int) := IntWalk.i64_in _ (by omega)
                    clear hal
                    go_wp2_with fail
                    clear k0
                    try clear t1
                    refine (insTal_any _ ts.length 0 w2.heap.size (wr.drewN q2).heap.size _ _ _ HOv.out HBv.out.size (by omega) (by omega) rfl HU1.out HX1.out HVB.out HNE.out).mono ?_
                    rintro e w6 ⟨g6, c6, rfl, ho, hg, _⟩
                    have HO6 : Hid (w6.ownsRow w2.heap.size 51 2 (.slice (some ⟨g6, 0, none⟩) (ts.length + 1) c6) (ts.take 0 ++ (kk, (n : Int)) :: ts.drop 0).length ((ts.take 0 ++ (kk, (n : Int)) :: ts.drop 0).flatMap talCells)) := Lib.hid (by
                      have h := ho
                      rw [tal_put] at h
                      have hl : (ts.take 0 ++ (kk, (n : Int)) :: ts.drop 0).length = ts.length + 1 := by
                        rw [List.length_append, List.length_cons, List.length_take, List.length_drop]; omega
                      rw [hl]
                      exact h)
                    have HB6 := Lib.hid (HBv.out.grown hg HBv.out.size (fun j hj => (HOv.out.lt j hj).1))
                    clear ho hg HOv HVB HBv HNE HU1 HX1
                    go_wp2_with fail
                    go_roundw
                    case rel => first | exact ⟨i + n, _, _, rfl, by go_num, by omega, HO6, HPT, HB6⟩ | (repeat (apply Exists.intro); (refine And.intro ?_ ?_; rotate_left; (repeat' (first | exact rfl | apply And.intro)); exact ⟨i + n, _, _, rfl, by go_num, by omega, HO6, HPT, HB6⟩))
                    case measure => simp [intOf]; omega
            · have hil' : ¬ (i : Int) + (n : Int) < (ks.length : Int) := by omega
              have hild : decide ((i : Int) + (n : Int) < (ks.length : Int)) = false := decide_eq_false hil'
              have hn0 : 0 < n := by omega
              have STOP2 := Lib.hid (STOP.out hn0 (fun hl => absurd hl hil))
              clear STOP
              go_wp2_with fail
              go_quiet (fail)
              go_wp2_with fail
              have HOd : Hid ((wr.drewN (q + nq)).ownsRow w2.heap.size 51 2 (.slice Ao ts.length co) ts.length (ts.flatMap talCells)) := Lib.hid (own_drewN HO.out _)
              go_loopw [15] (fun vp wy => ∃ (p q2 : Nat), vp = .int .i64 p ∧ p ≤ ts.length ∧ Hid (∀ j, p ≤ j → (hj : j < ts.length) → ts[j].2 < (n : Int)) ∧ wy = wr.drewN q2) (fun vp _ => (intOf vp).toNat)
              case atStart => exact ⟨ts.length, _, rfl, Nat.le_refl _, Lib.hid (fun j h hj => absurd hj (by omega)), by first | rfl | rw [World.drewN_drewN]⟩
              case round =>
                obtain ⟨p, q2, rfl, hp, HG, rfl⟩ := hrel
                by_cases hp0 : 0 < p
                · obtain ⟨gt, ct, e1, hbt, t1⟩ := tal_own_at HO.out (show p - 1 < ts.length by omega)
                  injection e1 with e1 e2 e3
                  subst e1 e3
                  clear e2
                  have HTP : Hid (∃ mz, mz = (ts[p - 1]'(by omega)).2) := Lib.hid ⟨_, rfl⟩
                  obtain ⟨mz, hmz⟩ := HTP.out
                  rw [← hmz] at t1
                  have HMZ := Lib.hid hmz
                  clear hmz HTP
                  have hpi : (0 : Int) < (p : Int) := by omega
                  have hpw : IntKind.i64.wrap ((p : Int) - 1) = (p : Int) - 1 := IntWalk.i64_in _ (by omega)
                  have hpn : (0 : Int) ≤ (p : Int) - 1 := by omega
                  have hpt : ((p : Int) - 1).toNat = p - 1 := by omega
                  have hpl : (p : Int) - 1 < (ts.length : Int) := by omega
                  by_cases hlow : mz < (n : Int)
                  · have HGN : Hid (∀ j, p - 1 ≤ j → (hj : j < ts.length) → ts[j].2 < (n : Int)) := Lib.hid (fun j h hj => by
                      rcases Nat.lt_or_ge (p - 1) j with e | e
                      · exact HG.out j (by omega) hj
                      · obtain rfl : j = p - 1 := by omega
                        rw [← HMZ.out]; exact hlow)
                    go_wp2_with fail
                    clear t1
                    go_roundw
                    case rel => first | exact ⟨p - 1, q2, by (first | go_num | (congr 1; omega)), by omega, HGN, rfl⟩ | (repeat (apply Exists.intro); (refine And.intro ?_ ?_; rotate_left; (repeat' (first | exact rfl | apply And.intro)); exact ⟨p - 1, q2, by (first | go_num | (congr 1; omega)), by omega, HGN, rfl⟩))
                    case measure => simp [intOf]; omega
                  · have HPT := Lib.hid (STOP2.out p hp (fun h0 h => by rw [← HMZ.out]; omega) HG.out)
                    have k0 : (wr.drewN q2).cell? ⟨gk, i, none⟩ = some (.string (bstr kk)) := K0.out
                    have hal := (Below.refl (wr.drewN q2).heap.size (wr.drewN q2)).alloc (Nat.le_refl _) (.cells #[.string (bstr kk), .int .i64 (n : Int)] 51)
                    have HOv := Lib.hid (own_below (own_drewN HO.out q2) hal)
                    have HVB := Lib.hid (Blk.new (wr.drewN q2) 51 [.string (bstr kk), .int .i64 (n : Int)])
                    have HBv := Lib.hid ((below_drewN HB.out q2).trans (hal.mono HB.out.size))
                    have HNE : Hid (some (wr.drewN q2).heap.size ≠ (Value.slice (some ⟨gt, 0, none⟩) ts.length co).ownBlock) := Lib.hid (fun e => absurd (HO.out.lt _ e.symm).2 (Nat.lt_irrefl _))
                    have HU1 : Hid (∀ u ∈ [Value.string (bstr kk), Value.int .i64 (n : Int)], u.oneCell' = true) := Lib.hid (by simp [Value.oneCell'])
                    have HX1 : Hid (∀ u ∈ ts.flatMap talCells, u.oneCell' = true) := Lib.hid (fun u hu => by obtain ⟨x, _, hx⟩ := List.mem_flatMap.1 hu; simp [talCells] at hx; rcases hx with rfl | rfl <;> rfl)
                    have hov2 : IntKind.i64.wrap ((i : Int) + (n : Int)) = (i : Int) + (n : Int) := IntWalk.i64_in _ (by omega)
                    clear hal
                    go_wp2_with fail
                    clear k0
                    try clear t1
                    refine (insTal_any _ ts.length p w2.heap.size (wr.drewN q2).heap.size _ _ _ HOv.out HBv.out.size (by omega) (by omega) rfl HU1.out HX1.out HVB.out HNE.out).mono ?_
                    rintro e w6 ⟨g6, c6, rfl, ho, hg, _⟩
                    have HO6 : Hid (w6.ownsRow w2.heap.size 51 2 (.slice (some ⟨g6, 0, none⟩) (ts.length + 1) c6) (ts.take p ++ (kk, (n : Int)) :: ts.drop p).length ((ts.take p ++ (kk, (n : Int)) :: ts.drop p).flatMap talCells)) := Lib.hid (by
                      have h := ho
                      rw [tal_put] at h
                      have hl : (ts.take p ++ (kk, (n : Int)) :: ts.drop p).length = ts.length + 1 := by
                        rw [List.length_append, List.length_cons, List.length_take, List.length_drop]; omega
                      rw [hl]
                      exact h)
                    have HB6 := Lib.hid (HBv.out.grown hg HBv.out.size (fun j hj => (HOv.out.lt j hj).1))
                    clear ho hg HOv HVB HBv HNE HU1 HX1
                    go_wp2_with fail
                    go_roundw
                    case rel => first | exact ⟨i + n, _, _, rfl, by go_num, by omega, HO6, HPT, HB6⟩ | (repeat (apply Exists.intro); (refine And.intro ?_ ?_; rotate_left; (repeat' (first | exact rfl | apply And.intro)); exact ⟨i + n, _, _, rfl, by go_num, by omega, HO6, HPT, HB6⟩))
                    case measure => simp [intOf]; omega
                · obtain rfl : p = 0 := by omega
                  have HPT := Lib.hid (STOP2.out 0 (Nat.zero_le _) (fun h0 => absurd h0 (by omega)) HG.out)
                  have hpi : ¬ (0 : Int) < ((0 : Nat) : Int) := by omega
                  have k0 : (wr.drewN q2).cell? ⟨gk, i, none⟩ = some (.string (bstr kk)) := K0.out
                  have hal := (Below.refl (wr.drewN q2).heap.size (wr.drewN q2)).alloc (Nat.le_refl _) (.cells #[.string (bstr kk), .int .i64 (n : Int)] 51)
                  have HOv := Lib.hid (own_below (own_drewN HO.out q2) hal)
                  have HVB := Lib.hid (Blk.new (wr.drewN q2) 51 [.string (bstr kk), .int .i64 (n : Int)])
                  have HBv := Lib.hid ((below_drewN HB.out q2).trans (hal.mono HB.out.size))
                  have HNE : Hid (some (wr.drewN q2).heap.size ≠ (Value.slice Ao ts.length co).ownBlock) := Lib.hid (fun e => absurd (HO.out.lt _ e.symm).2 (Nat.lt_irrefl _))
                  have HU1 : Hid (∀ u ∈ [Value.string (bstr kk), Value.int .i64 (n : Int)], u.oneCell' = true) := Lib.hid (by simp [Value.oneCell'])
                  have HX1 : Hid (∀ u ∈ ts.flatMap talCells, u.oneCell' = true) := Lib.hid (fun u hu => by obtain ⟨x, _, hx⟩ := List.mem_flatMap.1 hu; simp [talCells] at hx; rcases hx with rfl | rfl <;> rfl)
                  have hov2 : IntKind.i64.wrap ((i : Int) + (n : Int)) = (i : Int) + (n : Int) := IntWalk.i64_in _ (by omega)
                  clear hal
                  go_wp2_with fail
                  clear k0
                  try clear t1
                  refine (insTal_any _ ts.length 0 w2.heap.size (wr.drewN q2).heap.size _ _ _ HOv.out HBv.out.size (by omega) (by omega) rfl HU1.out HX1.out HVB.out HNE.out).mono ?_
                  rintro e w6 ⟨g6, c6, rfl, ho, hg, _⟩
                  have HO6 : Hid (w6.ownsRow w2.heap.size 51 2 (.slice (some ⟨g6, 0, none⟩) (ts.length + 1) c6) (ts.take 0 ++ (kk, (n : Int)) :: ts.drop 0).length ((ts.take 0 ++ (kk, (n : Int)) :: ts.drop 0).flatMap talCells)) := Lib.hid (by
                    have h := ho
                    rw [tal_put] at h
                    have hl : (ts.take 0 ++ (kk, (n : Int)) :: ts.drop 0).length = ts.length + 1 := by
                      rw [List.length_append, List.length_cons, List.length_take, List.length_drop]; omega
                    rw [hl]
                    exact h)
                  have HB6 := Lib.hid (HBv.out.grown hg HBv.out.size (fun j hj => (HOv.out.lt j hj).1))
                  clear ho hg HOv HVB HBv HNE HU1 HX1
                  go_wp2_with fail
                  go_roundw
                  case rel => first | exact ⟨i + n, _, _, rfl, by go_num, by omega, HO6, HPT, HB6⟩ | (repeat (apply Exists.intro); (refine And.intro ?_ ?_; rotate_left; (repeat' (first | exact rfl | apply And.intro)); exact ⟨i + n, _, _, rfl, by go_num, by omega, HO6, HPT, HB6⟩))
                  case measure => simp [intOf]; omega
        · obtain rfl : i = ks.length := by omega
          have HTO := Lib.hid (tal_perm (part_end HP.out (Nat.le_refl _)) HPM.out)
          have HSZ : Hid (∀ p ∈ ts, TalSz p) := Lib.hid (fun p hp => by
            obtain ⟨a, b⟩ := (HP.out.mem p).1 hp
            have := List.count_le_length (a := p.1) (l := ks)
            have hm : IntKind.i64.min = -9223372036854775808 := by rfl
            refine ⟨HKC2.out _ (List.mem_of_mem_take a), ?_⟩
            simp [Lit.wf, hm]
            omega)
          have HRD := Lib.hid (tals_read HO.out HSZ.out)
          have HB7 := Lib.hid (HB1.out.trans ((HB2.out.trans (HB.out.mono HB2.out.size)).mono HB1.out.size))
          go_wp2_with fail
          go_ret2
          exact ⟨_, ts, by rw [HF.out]; rfl, HRD.out, fun _ => by rw [HKS.out]; exact HTO.out, fun h => absurd HF.out h, HB7.out⟩
end Go.Proofs.YtgbpnghgcffkbaaGreatDoor
