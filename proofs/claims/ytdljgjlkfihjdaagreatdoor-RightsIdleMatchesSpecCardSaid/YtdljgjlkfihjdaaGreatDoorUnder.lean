/-
  Who is under whom: 'under' of package rights, 'below' of the reference of chapter 10.
-/
import Derived.Test.YtdljgjlkfihjdaaGreatDoorTeam
import Derived.Test.YtdljgjlkfihjdaaGreatDoorQue
namespace Go.Proofs.YtdljgjlkfihjdaaGreatDoor
open Go.RowKit
set_option linter.unusedVariables false
set_option linter.unusedSimpArgs false

theorem int_info : (Tryz.prog.info? 3).map (fun i => (i.zero, i.size, i.bytes)) = some (some (.int .i64 0), 1, 8) := by kernel_rfl
theorem bool_info : (Tryz.prog.info? 4).map (fun i => (i.zero, i.size, i.bytes)) = some (some (.bool false), 1, 1) := by kernel_rfl
theorem madeOne (z : Value) (hz : z.cells = #[z]) (n : Nat) : madeCells z.cells n = (List.replicate n z).toArray := by
  rw [hz]
  apply Array.ext
  · simp [madeCells]
  · intro i h1 h2
    simp [madeCells, Nat.mod_one]
theorem run_mk1 {P : Program} (w : World) (t e : TypeId) (z : Value) (bytes : Nat) (ht : P.underlying t = some (.slice e)) (hinfo : (P.info? e).map (fun i => (i.zero, i.size, i.bytes)) = some (some z, 1, bytes)) (hz : z.cells = #[z]) (n : Nat) (hn : bytes * n ≤ 281474976710656) (h63 : n ≤ 1000000000) (x : Int) (hx : x = n) :
    (Instr.makeSlice t (.int .i64 x) (.int .i64 x)).run P w = .ok (.slice (some ⟨w.heap.size, 0, none⟩) n n) (w.alloc (.cells (Array.replicate n z) e)) := by
  subst hx
  obtain ⟨i, hi, hz', h1, h2⟩ := info_parts hinfo
  have hb : (i.bytes : Int) * (n : Int) ≤ 281474976710656 := by rw [h2]; have : ((bytes * n : Nat) : Int) ≤ 281474976710656 := by omega
                                                                rwa [Int.natCast_mul] at this
  have := run_make (P := P) w t e i z ht hi hz' .i64 .i64 n n (by omega) (Int.le_refl _) hb (by omega)
  rw [this, h1, Int.toNat_natCast, Nat.mul_one, madeOne z hz, List.toArray_replicate]
def falses (w : World) (g : Nat) : Nat := match w.heap[g]? with | some (.cells cs _ _) => cs.toList.countP (fun v => match v with | .bool false => true | _ => false) | _ => 0
theorem falses_blk {w : World} {g : Nat} {t : TypeId} {cur : List Bool} (h : Blk w g t (cur.map .bool)) : falses w g = cur.count false := by
  unfold falses
  unfold Blk at h
  rw [h]
  show (cur.map Value.bool).countP _ = _
  rw [List.countP_map, List.count_eq_countP]
  congr 1
  funext b
  cases b <;> rfl
def lenS : Value → Nat | .slice _ n _ => n | _ => 0
theorem addr_add (g off j : Nat) : (⟨g, off, none⟩ : Addr).add j = ⟨g, off + j, none⟩ := by unfold Addr.add; split <;> simp_all
def ints (xs : List Nat) : List Int := xs.map fun (n : Nat) => (n : Int)
theorem ints_len (xs : List Nat) : (ints xs).length = xs.length := by simp [ints]
theorem ints_app (xs : List Nat) (k : Nat) : ints (xs ++ [k]) = ints xs ++ [(k : Int)] := by simp [ints]
theorem bools_at {w : World} {g : Nat} {cur : List Bool} (h : Blk w g 4 (cur.map .bool)) {j : Nat} (hj : j < cur.length) : w.cell? ⟨g, j, none⟩ = some (.bool (cur.getD j false)) := by
  rw [h.cell j, List.getElem?_map, List.getElem?_eq_getElem hj, getD_at _ _ hj]; rfl
theorem bools_set {w : World} {g : Nat} {cur : List Bool} (h : Blk w g 4 (cur.map .bool)) (j : Nat) : Blk (w.setCell ⟨g, j, none⟩ (.bool true)) g 4 ((cur.set j true).map .bool) := by
  have := h.set_ j (.bool true)
  rwa [List.map_set]
def UnderPost (l : List Team) (fr : Nat) (w : World) (e : Ending) (w' : World) : Prop :=
  ∃ (g : Nat) (cur : List Bool), e = .returned (.slice (some ⟨g, 0, none⟩) l.length l.length) ∧ w.heap.size ≤ g ∧ Blk w' g 4 (cur.map .bool) ∧ cur.length = l.length ∧ (∀ j, cur.getD j false = true ↔ Reach l fr j) ∧ Below w.heap.size w w'
/-- What the search keeps. -/
structure UnSt (l : List Team) (fr B : Nat) (w0 : World) (g0 : Nat) (cur : List Bool) (todo : List Nat) (v : Value) (w : World) : Prop where
  blk : Blk w g0 4 (cur.map .bool)
  que : ∃ g1, Que w 3 B g1 v (ints todo) ∧ g1 ≠ g0 ∧ (g1 < w.heap.size ∨ todo = [])
  meas : 2 * cur.count false + todo.length ≤ 2 * l.length + 1
  bel : Below B w0 w
  lo : B ≤ g0
theorem UnSt.blks {l : List Team} {fr B : Nat} {w0 : World} {g0 : Nat} {cur : List Bool} {todo : List Nat} {v : Value} {w : World} (h : UnSt l fr B w0 g0 cur todo v w) : falses w g0 = cur.count false := falses_blk h.blk
theorem UnSt.below {l : List Team} {fr B : Nat} {w0 : World} {g0 : Nat} {cur : List Bool} {todo : List Nat} {v : Value} {w w' : World} (h : UnSt l fr B w0 g0 cur todo v w) (hb : Below w.heap.size w w') (hB : B ≤ w.heap.size) : UnSt l fr B w0 g0 cur todo v w' := by
  obtain ⟨g1, hq, hne, hlt⟩ := h.que
  refine ⟨h.blk.same (same_below hb) h.blk.lt, ⟨g1, ?_, hne, hlt.imp (fun e => by have := hb.size; omega) id⟩, h.meas, h.bel.trans (hb.mono hB), h.lo⟩
  rcases hlt with e | e
  · exact hq.same (hb.block g1 e)
  · subst e
    obtain ⟨ao, off, cap, cur', h1, h2, h3, h4, h5⟩ := hq
    by_cases hc : 0 < cap
    · have := (Array.getElem?_eq_some_iff.1 (h5 hc).2.1).1
      exact ⟨ao, off, cap, cur', h1, h2, h3, h4, fun hc => ⟨(h5 hc).1, (hb.block g1 this).trans (h5 hc).2.1, (h5 hc).2.2⟩⟩
    · exact ⟨ao, off, cap, cur', h1, h2, h3, h4, fun hc' => absurd hc' hc⟩
theorem UnSt.qlen {l : List Team} {fr B : Nat} {w0 : World} {g0 : Nat} {cur : List Bool} {todo : List Nat} {v : Value} {w : World} (h : UnSt l fr B w0 g0 cur todo v w) : ∃ ao cq, v = .slice ao todo.length cq := by
  obtain ⟨gq, hq, _⟩ := h.que
  obtain ⟨ao, cq, h⟩ := hq.len
  rw [ints_len] at h
  exact ⟨ao, cq, h⟩
set_option maxRecDepth 100000 in
set_option maxHeartbeats 4000000 in
theorem under_any (v : Value) (l : List Team) (fr : Nat) (w : World) (h0 : (Rp.sl teamRp).ok w (· < w.heap.size) [v] l) (hg : TGood l) (hf : fr < l.length) :
    Calls Tryz.prog 41 #[v, .int .i64 fr] w (UnderPost l fr w) := by
  obtain ⟨A, c, rfl, hl, hc, _⟩ := Rp.sl_open h0
  unfold maxLen at hc
  have hlen := hg.len
  have H0 := Lib.hid h0
  have HG := Lib.hid hg
  have hmk : ∀ W : World, (Instr.makeSlice 72 (.int .i64 (l.length : Int)) (.int .i64 (l.length : Int))).run Tryz.prog W = .ok (.slice (some ⟨W.heap.size, 0, none⟩) l.length l.length) (W.alloc (.cells (Array.replicate l.length (.bool false)) 4)) :=
    fun W => run_mk1 W 72 4 _ 1 Tryz.underlying72 bool_info rfl l.length (by omega) (by omega) _ rfl
  have HS0 : Hid (UnSt l fr w.heap.size w w.heap.size (List.replicate l.length false) [fr] (.slice (some ⟨w.heap.size + 1, 0, none⟩) 1 1) ((w.alloc (.cells (Array.replicate l.length (.bool false)) 4)).alloc (.cells #[.int .i64 fr] 3))) := Lib.hid (by
    have hq := Que.new (w.alloc (.cells (Array.replicate l.length (.bool false)) 4)) 3 fr
    rw [World.size_alloc] at hq
    have hb1 := (Below.refl w.heap.size w).alloc (Nat.le_refl _) (.cells (Array.replicate l.length (.bool false)) 4)
    have hb2 := (Below.refl (w.heap.size + 1) (w.alloc (.cells (Array.replicate l.length (.bool false)) 4))).alloc (by rw [World.size_alloc]; exact Nat.le_refl _) (.cells #[.int .i64 fr] 3)
    refine ⟨?_, ⟨w.heap.size + 1, hq.mono (by omega), by omega, .inl (by simp)⟩, ?_, hb1.trans (hb2.mono (by omega)), Nat.le_refl _⟩
    · have := (Blk.new w 4 ((List.replicate l.length false).map .bool)).same (w' := (w.alloc (.cells (Array.replicate l.length (.bool false)) 4)).alloc (.cells #[.int .i64 fr] 3)) (S := (· < w.heap.size + 1)) (by rw [List.map_replicate, List.toArray_replicate]; exact same_below hb2) (by omega)
      exact this
    · rw [List.count_replicate_self]; simp)
  have HD0 := Lib.hid (dfs_start hf)
  clear h0 hg
  go_enter Tryz.func41, Tryz.ntmps41
  go_wp2_with fail
  generalize (w.alloc (.cells (Array.replicate l.length (.bool false)) 4)).alloc (.cells #[.int .i64 fr] 3) = wS at *
  generalize hG0 : w.heap.size = G at *
  have HGG := Lib.hid hG0
  clear hG0
  go_loopw [6] (fun vt wr => ∃ (cur : List Bool) (todo : List Nat), Hid (UnSt l fr G w G cur todo vt wr) ∧ Hid (Dfs l fr cur todo)) (fun vt wr => 2 * falses wr G + lenS vt)
  case atStart => exact ⟨_, _, HS0, HD0⟩
  case round =>
    clear HS0 HD0
    obtain ⟨cur, todo, HU, HD⟩ := hrel
    obtain ⟨g1, hq, hne, hlt1⟩ := HU.out.que
    rcases List.eq_nil_or_concat todo with rfl | ⟨ini, k, htd⟩
    · obtain ⟨ao, cq, rfl⟩ := hq.len
      have HP : Hid (UnderPost l fr w (.returned (.slice (some ⟨G, 0, none⟩) l.length l.length)) wr) := Lib.hid ⟨G, cur, rfl, by rw [HGG.out]; exact Nat.le_refl _, HU.out.blk, HD.out.len, dfs_over hf HD.out, by rw [HGG.out]; exact HU.out.bel⟩
      clear hq
      rw [show (ints ([] : List Nat)).length = 0 from rfl]
      go_wp2_with fail
      go_ret
      exact HP.out
    · rw [List.concat_eq_append] at htd
      subst htd
      rw [ints_app] at hq
      obtain ⟨off, cap, rfl, hcap1, hcap2, hck, hq2⟩ := hq.last
      rw [ints_len] at *
      have hmeas := HU.out.meas
      rw [List.length_append, List.length_singleton] at hmeas
      have HDI := Lib.hid (dfs_pop (k := k) (todo := ini) HD.out (fun x => by rw [List.mem_append, List.mem_singleton]; exact Or.comm))
      have hkl := HDI.out.klt
      have HUI : Hid (UnSt l fr G w G cur ini (.slice (some ⟨g1, off, none⟩) ini.length cap) wr) := Lib.hid ⟨HU.out.blk, ⟨g1, hq2, hne, hlt1.imp id (fun e => absurd e (by simp))⟩, by omega, HU.out.bel, HU.out.lo⟩
      have HM : Hid (2 * falses wr G + (ini.length + 1) = 2 * cur.count false + ini.length + 1) := Lib.hid (by rw [HU.out.blks]; omega)
      have hLW : w.heap.size ≤ wr.heap.size := HU.out.bel.size
      have HBW : Hid (Below w.heap.size w wr) := Lib.hid (by rw [HGG.out]; exact HU.out.bel)
      obtain ⟨ad0, cc, Ap, cp, At, ct, e1, hadb, c0, c1, c2, hz, hpp, hpt⟩ := team_at H0.out hkl
      cases e1
      have hadb2 : (ad0.add (k * 3)).block < w.heap.size := by rw [add_block, HGG.out]; exact hadb
      have d2 : wr.cell? ⟨(ad0.add (k * 3)).block, (ad0.add (k * 3)).off + 2, none⟩ = some (.slice At l[k].teams.length ct) := (HBW.out.cell (p := ⟨(ad0.add (k * 3)).block, (ad0.add (k * 3)).off + 2, none⟩) hadb2).trans c2
      have HT := Lib.hid hpt
      have HTE : Hid ((l.getD k default).teams = l[k].teams) := Lib.hid (by rw [getD_at _ _ hkl])
      have htl := (HG.out.few k hkl).2
      have hk2 : wr.cell? ((⟨g1, off, none⟩ : Addr).add ini.length) = some (.int .i64 (k : Int)) := by rw [addr_add]; exact hck
      obtain ⟨ad1, had1⟩ : ∃ ad1 : Addr, ad1 = ⟨g1, off, none⟩ := ⟨_, rfl⟩
      rw [← had1] at hk2 HUI ⊢
      have hkm : IntKind.i64.wrap ((ini.length : Int) + 1 - 1) = ini.length := by rw [Int.add_sub_cancel]; exact IntWalk.i64_in _ (by unfold maxLen at hcap2; omega)
      have hkm2 : IntKind.i64.wrap (ini.length : Int) = ini.length := IntWalk.i64_in _ (by unfold maxLen at hcap2; omega)
      have hm0 : (0 : Int) ≤ (ini.length : Int) := by omega
      have hmc : (ini.length : Int) ≤ (cap : Int) := by omega
      have hcne : ¬ cap = 0 := by omega
      have hk0 : (0 : Int) ≤ (k : Int) := by omega
      have hklI : (k : Int) < (l.length : Int) := by omega
      clear hq hq2 hck hpp hpt c0 c1 c2 hadb had1 hcap1 hcap2 hne hlt1
      generalize hts : l[k].teams = ts at *
      clear hts
      obtain ⟨M, hM⟩ : ∃ M, M = 2 * cur.count false + ini.length := ⟨_, rfl⟩
      have HMM := Lib.hid hM
      have hMle : M ≤ 2 * l.length := by omega
      have HMD : Hid (2 * falses wr G + (ini.length + 1) = M + 1) := Lib.hid (by rw [HM.out, HMM.out])
      clear hM hmeas HM
      obtain ⟨wo, rfl⟩ : ∃ wo : World, wo = wr := ⟨_, rfl⟩
      go_wp2_with fail
      go_loopw [6, 36] (fun vt vi wx => ∃ (cu : List Bool) (td : List Nat) (m : Nat), vi = .int .i64 m ∧ m ≤ ts.length ∧ 2 * cu.count false + td.length ≤ M ∧ Hid (UnSt l fr G w G cu td vt wx) ∧ Hid (DfsIn l fr cu td k m)) (fun _ vi _ => ts.length - (intOf vi).toNat)
      case atStart => exact ⟨cur, ini, 0, rfl, by omega, by have := HMM.out; omega, HUI, HDI⟩
      case round =>
        clear HUI HDI HU HD HBW hk2 d2 hLW
        obtain ⟨cu, td, m, rfl, hm, hmm, HX, HI⟩ := hrel
        have HXB : Hid (Below w.heap.size w wr) := Lib.hid (by rw [HGG.out]; exact HX.out.bel)
        have hGx : G ≤ wr.heap.size := by have := HX.out.bel.size; have := HGG.out; omega
        by_cases hlt : m < ts.length
        · obtain ⟨at_, c', e1, hatb, p0, hzs⟩ := names_at (namesRp.below HT.out (by rw [← HGG.out]; exact HXB.out)) hlt
          injection e1 with e1 _ e3
          subst e1 e3
          have HK1 : Hid (∀ s ∈ ts, 0 ≤ teamIdx l s) := Lib.hid (fun s hs => HG.out.known k hkl s (by rw [← getD_at l default hkl, HTE.out]; exact hs))
          obtain ⟨j, hj⟩ : ∃ j : Nat, teamIdx l ts[m] = (j : Int) := ⟨(teamIdx l ts[m]).toNat, (Int.toNat_of_nonneg (HK1.out _ (List.getElem_mem hlt))).symm⟩
          have hjl : j < l.length := by have := (teamIdx_lt l ts[m]).2; omega
          have HJ : Hid (teamIdx l ((l.getD k default).teams[m]'(by rw [HTE.out]; exact hlt)) = (j : Int)) := Lib.hid (by
            have e : (l.getD k default).teams[m]'(by rw [HTE.out]; exact hlt) = ts[m] := by congr 1
            rw [e]; exact hj)
          obtain ⟨ao, cq, hv⟩ := HX.out.qlen
          subst hv
          have HCA := Lib.hid (teamAt_any _ l ts[m] wr (Rp.ext (Rp.sl teamRp) (show (Rp.sl teamRp).ok w (· < w.heap.size) [.slice (some ad0) l.length c] l by rw [HGG.out]; exact H0.out) (by rw [HGG.out]; exact HX.out.bel)) HG.out.sort HG.out.len)
          rw [hj] at HCA
          generalize ts[m] = s at *
          go_wp2_with fail
          refine HCA.out.mono ?_
          rintro e w5 ⟨rfl, hb5⟩
          have HX5 := Lib.hid (HX.out.below hb5 hGx)
          have hG5 : G ≤ w5.heap.size := by have := hb5.size; omega
          have hcl : j < cu.length := by rw [HI.out.len]; exact hjl
          have b0 : w5.cell? ⟨G, j, none⟩ = some (.bool (cu.getD j false)) := bools_at HX5.out.blk hcl
          have f0 : w5.frozen? ⟨G, j, none⟩ = false := HX5.out.blk.frozen j
          have hjI : (j : Int) < (l.length : Int) := by omega
          clear hb5 HX HCA p0
          cases hb : cu.getD j false with
          | true =>
            have HI2 := Lib.hid (dfs_old HI.out (by rw [HTE.out]; exact hlt) HJ.out hb)
            rw [hb] at b0
            clear hb f0
            go_wp2_with fail
            go_roundw
            case rel => first | exact ⟨cu, td, m + 1, by go_num, by omega, hmm, HX5, HI2⟩ | (repeat (apply Exists.intro); (refine And.intro ?_ ?_; rotate_left; (repeat' (first | exact rfl | apply And.intro)); exact ⟨cu, td, m + 1, by go_num, by omega, hmm, HX5, HI2⟩))
            case measure => simp [intOf]; omega
          | false =>
            have HI2 := Lib.hid (dfs_new (more := td ++ [j]) HI.out (by rw [HTE.out]; exact hlt) HJ.out (fun x => by rw [List.mem_append, List.mem_singleton]))
            have HCN := Lib.hid (cnt_set hcl hb)
            rw [hb] at b0
            clear hb
            obtain ⟨gq, hq, hne, hltq⟩ := HX5.out.que
            have hgG : Hid (gq ≠ G) := Lib.hid hne
            have HQ6 : Hid (Que (w5.setCell ⟨G, j, none⟩ (.bool true)) 3 G gq (.slice ao td.length cq) (ints td)) := Lib.hid (hq.same (Below.heap_setCell _ _ _ _ (by exact hne)))
            have HB6 := Lib.hid (bools_set HX5.out.blk j)
            have HE6 : Hid (Below G w (w5.setCell ⟨G, j, none⟩ (.bool true))) := Lib.hid (HX5.out.bel.setCell (p := ⟨G, j, none⟩) (Nat.le_refl _) _)
            have hs6 : (w5.setCell ⟨G, j, none⟩ (.bool true)).heap.size = w5.heap.size := by simp [World.setCell]
            have htd : td.length ≤ 1000000 := by omega
            clear hq hne hltq
            go_wp2_with (at_builtin; go_must (refine app_que (w := w5.setCell ⟨G, j, none⟩ (.bool true)) rfl (.tmp 51) (.tmp 53) 26 rfl 3 Tryz.underlying26 int_info (B := G) (g := gq) (v := .slice ao td.length cq) (xs := ints td) (j : Int) HQ6.out (by rw [hs6]; exact hG5) rfl (by rw [hs6]; rfl) (by rw [ints_len]; exact htd) ?_); intro v7 g7 w7 HQ7 HG7 HE7 HL7)
            have HX7 : Hid (UnSt l fr G w G (cu.set j true) (td ++ [j]) v7 w7) := Lib.hid (by
              refine ⟨HB6.out.same (S := fun x => x = G) (fun x hx => by subst hx; exact HG7.out.block x (by rw [hs6]; have := HB6.out.lt; rw [hs6] at this; exact this) (fun e => hgG.out (by cases e; rfl))) rfl, ⟨g7, ?_, ?_, .inl ?_⟩, ?_, HE7.out w HE6.out, Nat.le_refl _⟩
              · rw [ints_app]; exact HQ7.out
              · rcases HL7.out with e | e
                · rw [e]; exact hgG.out
                · have := HB6.out.lt; omega
              · exact HQ7.out.lt (by simp)
              · rw [List.length_append, List.length_singleton]; have := HCN.out; omega)
            have HM7 : Hid (2 * (cu.set j true).count false + (td ++ [j]).length ≤ M) := Lib.hid (by rw [List.length_append, List.length_singleton]; have := HCN.out; omega)
            go_roundw
            case rel => first | exact ⟨cu.set j true, td ++ [j], m + 1, by go_num, by omega, HM7.out, HX7, HI2⟩ | (repeat (apply Exists.intro); (refine And.intro ?_ ?_; rotate_left; (repeat' (first | exact rfl | apply And.intro)); exact ⟨cu.set j true, td ++ [j], m + 1, by go_num, by omega, HM7.out, HX7, HI2⟩))
            case measure => simp [intOf]; omega
        · obtain rfl : m = ts.length := by omega
          have HD2 : Hid (Dfs l fr cu td) := Lib.hid (dfs_end (k := k) (by rw [HTE.out]; exact HI.out))
          obtain ⟨ao, cq, hv⟩ := HX.out.qlen
          subst hv
          have HMF : Hid (2 * falses wr G + td.length < 2 * falses wo G + (ini.length + 1)) := Lib.hid (by rw [HMD.out, HX.out.blks]; omega)
          go_wp2_with fail
          go_roundw
          case rel => first | exact ⟨cu, td, HX, HD2⟩ | (repeat (apply Exists.intro); (refine And.intro ?_ ?_; rotate_left; (repeat' (first | exact rfl | apply And.intro)); exact ⟨cu, td, HX, HD2⟩))
          case measure => exact HMF.out
end Go.Proofs.YtdljgjlkfihjdaaGreatDoor
