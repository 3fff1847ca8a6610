/-
  The law 'TopCopiesAreVoted' walked: it returns true.
-/
import Derived.Test.YtpmonhilfpfiaaaGreatDoorOneB
import Derived.Test.YtpmonhilfpfiaaaGreatDoorAftPlain
import Derived.Test.YtpmonhilfpfiaaaGreatDoorRepairs
import Derived.Test.YtpmonhilfpfiaaaGreatDoorAfter
import Derived.Test.YtpmonhilfpfiaaaGreatDoorVTop
import Derived.Test.YtpmonhilfpfiaaaGreatDoorGInt
import Derived.Test.YtpmonhilfpfiaaaGreatDoorDate
import Derived.Test.YtpmonhilfpfiaaaGreatDoorOpen
import Derived.Deep.RegionHeld
import Derived.Test.YtpmonhilfpfiaaaGreatDoorRows
import Derived.Stop.LaidErr
import Derived.Lib.LaidTab
import Derived.Lay
import Derived.LaidMore
import Derived.ProofKit
import Derived.OpenShut
import Derived.Stop.Joined
import Derived.SizedLaws
import Derived.Deep.DeepWitnessRowRef
namespace Go.Proofs.YtpmonhilfpfiaaaGreatDoor
open Go.RowKit
set_option linter.unusedVariables false
set_option linter.unusedSimpArgs false

/-! Three copies at three sites, one of them another one: the votes, the repair, the copies after it, in plain words. -/
def site3 : List Site := [⟨[97], 1, 0⟩, ⟨[98], 1, 0⟩, ⟨[99], 1, 0⟩]
def held3 (d e : List UInt8) : List Held := [⟨[120], [97], d⟩, ⟨[120], [98], e⟩, ⟨[120], [99], d⟩]
def cost3 : List Cst := [⟨[99], [98], 0⟩]
def rep3 : List Rpr := [⟨[120], [99], [98], 1⟩]
theorem dig_ne {d : List UInt8} (h : isDig d = true) : d ≠ [] := by
  rintro rfl
  exact absurd h (by decide)
theorem copies3 {d e : List UInt8} (hd : isDig d = true) (he : isDig e = true) : copiesFault site3 (held3 d e) = 0 := by
  unfold copiesFault
  rw [if_neg (by decide), if_neg (by simp [held3])]
  refine firstF_ok fun j hj => ?_
  have hj : j < 3 := hj
  have : j = 0 ∨ j = 1 ∨ j = 2 := by omega
  rcases this with rfl | rfl | rfl
  · exact heldF_5 (show 0 < (held3 d e).length by simp [held3]) (by rfl) (by show ¬ siteIdx site3 [97] < 0; decide) hd (fun h => absurd h.1 (by decide))
  · exact heldF_5 (show 1 < (held3 d e).length by simp [held3]) (by rfl) (by show ¬ siteIdx site3 [98] < 0; decide) he (fun h => absurd h.2 (by rw [show heldBad _ _ = false from rfl]; decide))
  · exact heldF_5 (show 2 < (held3 d e).length by simp [held3]) (by rfl) (by show ¬ siteIdx site3 [99] < 0; decide) hd (fun h => absurd h.2 (by rw [show heldBad _ _ = false from rfl]; decide))
theorem votes3 (d e : List UInt8) : votesOf site3 (held3 d e) = [voteOf site3 (held3 d e)] := by
  unfold held3
  rw [votesOf]
  show voteOf site3 (held3 d e) :: votesOf site3 [] = _
  rw [votesOf_nil]
  rfl
theorem dig3 {d e : List UInt8} : voteDig site3 (held3 d e) = d := by
  have w1 : ∀ z, wtOf site3 ⟨[120], [97], z⟩ = 1 := fun z => rfl
  have w2 : ∀ z, wtOf site3 ⟨[120], [98], z⟩ = 1 := fun z => rfl
  have w3 : ∀ z, wtOf site3 ⟨[120], [99], z⟩ = 1 := fun z => rfl
  have hs : sumW site3 (held3 d e) = 3 := by simp [held3, sumW, w1, w2, w3]
  have hd : 2 ≤ ofW site3 d (held3 d e) := by
    simp only [held3, ofW, w1, w2, w3, if_true]
    split <;> omega
  have he : e ≠ d → ofW site3 e (held3 d e) = 1 := fun h => by
    simp only [held3, ofW, w1, w2, w3, if_true]
    rw [if_neg (Ne.symm h)]
    omega
  unfold voteDig
  show voteDigGo site3 (held3 d e) [⟨[120], [97], d⟩, ⟨[120], [98], e⟩, ⟨[120], [99], d⟩] [] = d
  simp only [voteDigGo]
  rw [if_pos (show 2 * ofW site3 d (held3 d e) > sumW site3 (held3 d e) by omega)]
theorem vote3 {d e : List UInt8} (h : e ≠ d) : voteOf site3 (held3 d e) = ⟨[120], d, [[97], [99]], [[98]]⟩ := by
  unfold voteOf
  rw [dig3]
  simp [held3, sitesOf, isD, notD, h]
theorem vote3s (d : List UInt8) : voteOf site3 (held3 d d) = ⟨[120], d, [[97], [98], [99]], []⟩ := by
  unfold voteOf
  rw [dig3]
  simp [held3, sitesOf, isD, notD]
theorem rep3_is {d e : List UInt8} (h0 : d ≠ []) (h : e ≠ d) : repL site3 cost3 ((1 : Nat) : Int) (votesOf site3 (held3 d e)) = (rep3, []) := by
  rw [votes3, vote3 h]
  have hv : repV ⟨[120], d, [[97], [99]], [[98]]⟩ cost3 ((1 : Nat) : Int) [] site3 = (rep3, true) := by
    unfold repV
    show List.foldl _ ([], !decide (d = [])) [_, _, _] = _
    rw [decide_eq_false h0]
    simp only [List.foldl_cons, List.foldl_nil, Bool.not_false]
    rw [repStep_skip (.inr (by simp)), repStep_yes h0 (by simp) (show (0 : Int) ≤ (chL [[97], [99]] [98] cost3).2 by decide), repStep_skip (.inr (by simp))]
    show ([] ++ [rprOf ⟨[120], d, [[97], [99]], [[98]]⟩ cost3 ((1 : Nat) : Int) [] ⟨[98], 1, 0⟩], true) = _
    have e1 : rprOf ⟨[120], d, [[97], [99]], [[98]]⟩ cost3 ((1 : Nat) : Int) [] ⟨[98], 1, 0⟩ = ⟨[120], [99], [98], 1⟩ := by
      unfold rprOf
      rw [show (chL [[97], [99]] [98] cost3).1 = [99] by decide]
      simp [sentN]
    rw [e1]
    rfl
  show repW site3 cost3 ((1 : Nat) : Int) ([], []) _ = _
  unfold repW
  rw [hv]
  rfl
theorem repF3 {d e : List UInt8} (hd : isDig d = true) (he : isDig e = true) (h : e ≠ d) : repFault site3 (held3 d e) cost3 1 = 0 ∧ repOut site3 (held3 d e) cost3 1 = (rep3, []) := by
  have hr := rep3_is (dig_ne hd) h
  have hf : repFault site3 (held3 d e) cost3 1 = 0 := by
    unfold repFault
    rw [if_neg (by rw [copies3 hd he]; decide), if_neg (by decide), if_neg (by decide)]
    rw [show (1 : Int) = ((1 : Nat) : Int) from rfl, hr]
    rfl
  refine ⟨hf, ?_⟩
  rw [repOut, if_pos hf]
  exact hr
theorem aft3 {d e : List UInt8} (h0 : d ≠ []) : aftL (held3 d e) rep3 = held3 d d := by
  show putL (held3 d e) (rprHeld (held3 d e) ⟨[120], [99], [98], 1⟩) = _
  have e1 : rprHeld (held3 d e) ⟨[120], [99], [98], 1⟩ = ⟨[120], [98], d⟩ := by
    unfold rprHeld
    rfl
  rw [e1]
  rfl
theorem aftF3 {d e : List UInt8} (hd : isDig d = true) (he : isDig e = true) : aftFault site3 (held3 d e) rep3 = 0 ∧ aftOut site3 (held3 d e) rep3 = held3 d d := by
  have h0 := dig_ne hd
  have ha := aft3 (e := e) h0
  have hf : aftFault site3 (held3 d e) rep3 = 0 := by
    have h1 : firstF (aftF site3 (held3 d e) rep3) rep3.length = 0 := by
      refine firstF_ok fun j hj => ?_
      have hj : j < 1 := hj
      obtain rfl : j = 0 := by omega
      unfold aftF
      rw [if_neg (by decide), if_neg (by decide), if_neg (by decide), if_neg (by decide), if_neg (show ¬ heldL (rep3.getD 0 default).item (rep3.getD 0 default).frm (held3 d e) = [] from h0), if_neg (by decide)]
    unfold aftFault
    rw [if_neg (by rw [copies3 hd he]; decide), if_neg (by decide), if_neg (by rw [h1]; decide), ha, if_neg (by simp [held3])]
  refine ⟨hf, ?_⟩
  rw [aftOut, if_pos hf, ha]
theorem ti_of {W : World} (h : laidMetH Tryz.prog Rows.topCopiesAreVotedRow.laid W) : TI W := by
  rw [MakeChecks.laidMetH_plain _ _ _ (by kernel_rfl)] at h
  have h3 := h.tail.tail
  have e : (Rows.laid_internal_strconv_uint64pow10 : DataW Unit) = Lib.tabData .u64 Lib.pow10Tab := by rfl
  rw [e] at h3
  exact Lib.tabIs_of_head (g := 3) (t := 227) (e := 93) (n := 20) (by kernel_rfl) (by kernel_rfl) Tryz.underlying227 Tryz.underlying93 (by kernel_rfl) (by kernel_rfl) h3
theorem opens_bytes : Opens Tryz.prog 57 (Rp.sl Rp.u8) := opens_sl Tryz.underlying57 (by kernel_rfl) (by decide) (of_decide_eq_true (by kernel_rfl)) (opens_u8 Tryz.underlying5)
theorem strV_back (p : ByteArray × List UInt8) : (bstr p.1.data.toList, p.2) = p := by rw [bstr_eq]
theorem opens_file : Opens Tryz.prog 59 fileRp := by
  refine opens_via _ (fun p => ⟨p.1.data.toList, p.2⟩) strV_back ?_
  refine opens_struct Tryz.underlying59 (by kernel_rfl) ?_
  refine opensF_cons (by rfl) (by kernel_rfl) (opens_str Tryz.underlying9) ?_
  exact opensF_one (by rfl) (by kernel_rfl) opens_bytes
theorem opens_files : Opens Tryz.prog 22 (Rp.sl fileRp) := opens_sl Tryz.underlying22 (by kernel_rfl) (by decide) (of_decide_eq_true (by kernel_rfl)) opens_file
/-- A literal row. -/
theorem Rp.lit {α : Type} {R : Rp α} (hsz : 0 < R.sz) {f : α → List Value} (hf : ∀ a, (f a).length = R.sz) (w : World) (e : TypeId) (l : List α) (hl : l.length ≤ maxLen) (hel : ∀ a ∈ l, ∀ S W, R.ok W S (f a) a) :
    (Rp.sl R).ok (w.alloc (.cells (l.flatMap f).toArray e)) (· < (w.alloc (.cells (l.flatMap f).toArray e)).heap.size) [.slice (some ⟨w.heap.size, 0, none⟩) l.length l.length] l := by
  have h := World.ownsRow_lit (base := w.heap.size) (e := e) (size := R.sz) w (l.flatMap f).toArray l.length (Nat.le_refl _) hl (by rw [List.size_toArray]; exact flat_len hf l)
  exact Rp.of_ownN hsz hf h (fun g hg => (h.lt g hg).2) (fun a ha => hel a ha _ _)
def siteC (x : Site) : List Value := [.string (bstr x.name), .int .i64 x.weight, .int .i64 x.room]
theorem site_ok3 : ∀ a ∈ site3, ∀ S W, siteRp.ok W S (siteC a) a := by
  intro a ha S W
  simp only [site3, List.mem_cons, List.not_mem_nil, or_false] at ha
  rcases ha with rfl | rfl | rfl <;> exact ⟨[_], [_, _], rfl, ⟨rfl, by decide⟩, [_], [_], rfl, ⟨rfl, by decide⟩, ⟨rfl, by decide⟩⟩
theorem held_ok3 {d e : List UInt8} (hd : d.length ≤ 1000) (he : e.length ≤ 1000) : ∀ a ∈ held3 d e, ∀ S W, heldRp.ok W S (heldCells a) a := by
  intro a ha S W
  have h1 : (bstr d).size ≤ maxLen := by rw [bstr_size]; unfold maxLen; omega
  have h2 : (bstr e).size ≤ maxLen := by rw [bstr_size]; unfold maxLen; omega
  simp only [held3, List.mem_cons, List.not_mem_nil, or_false] at ha
  rcases ha with rfl | rfl | rfl
  · exact ⟨[_], [_, _], rfl, ⟨rfl, (show (bstr [120]).size ≤ maxLen by decide)⟩, [_], [_], rfl, ⟨rfl, (show 1 ≤ maxLen by decide)⟩, ⟨rfl, h1⟩⟩
  · exact ⟨[_], [_, _], rfl, ⟨rfl, (show (bstr [120]).size ≤ maxLen by decide)⟩, [_], [_], rfl, ⟨rfl, (show 1 ≤ maxLen by decide)⟩, ⟨rfl, h2⟩⟩
  · exact ⟨[_], [_, _], rfl, ⟨rfl, (show (bstr [120]).size ≤ maxLen by decide)⟩, [_], [_], rfl, ⟨rfl, (show 1 ≤ maxLen by decide)⟩, ⟨rfl, h1⟩⟩
theorem cost_ok3 : ∀ a ∈ cost3, ∀ S W, cstRp.ok W S (cstCells a) a := by
  intro a ha S W
  simp only [cost3, List.mem_cons, List.not_mem_nil, or_false] at ha
  subst ha
  exact ⟨[_], [_, _], rfl, ⟨rfl, by decide⟩, [_], [_], rfl, ⟨rfl, by decide⟩, ⟨rfl, by decide⟩⟩
theorem bytesLess_irrefl (a : List UInt8) : Op.bytesLess a a = false := by
  rcases scmp_cases a a with ⟨_, _, _, h⟩ | ⟨_, h, _⟩ | ⟨_, _, _, h⟩
  · exact absurd rfl h
  · exact h
  · exact absurd rfl h
theorem paths_lt {F : List FileR} (h : filesFault F = 0) (i : Nat) : ∀ d (hd : i + 1 + d < F.length), slt (F[i]'(by omega)).path F[i + 1 + d].path = true := by
  have adj : ∀ j (hj : j + 1 < F.length), slt (F[j]'(by omega)).path F[j + 1].path = true := fun j hj => by
    have h1 := ((files_ok h).2 (j + 1) hj).2.2
    simp only [Nat.add_sub_cancel] at h1
    have h2 : ¬ sle F[j + 1].path F[j].path = true := fun e => h1 ⟨by omega, e⟩
    unfold sle at h2
    unfold slt
    rcases scmp_cases F[j].path F[j + 1].path with ⟨_, h, _⟩ | ⟨_, _, _, h⟩ | ⟨_, _, h, _⟩
    · exact h
    · rw [h] at h2; simp at h2
    · rw [h] at h2; simp at h2
  intro d
  induction d with
  | zero => intro hd; exact adj i hd
  | succ d ih => intro hd; exact slt_tr (ih (by omega)) (adj (i + 1 + d) hd)
theorem paths_ne {F : List FileR} (h : filesFault F = 0) {i j : Nat} (hi : i < F.length) (hj : j < F.length) (hne : i ≠ j) : F[i].path ≠ F[j].path := by
  have key : ∀ a b (ha : a < F.length) (hb : b < F.length), a < b → F[a].path ≠ F[b].path := fun a b ha hb hab e => by
    obtain ⟨d, rfl⟩ : ∃ d, b = a + 1 + d := ⟨b - (a + 1), by omega⟩
    have := paths_lt h a d hb
    rw [e] at this
    unfold slt at this
    rw [bytesLess_irrefl] at this
    cases this
  rcases Nat.lt_or_gt_of_ne hne with h1 | h1
  · exact key i j hi hj h1
  · exact fun e => key j i hj hi h1 e.symm
theorem hexB_mem (m : Int) : hexSet.contains (hexB m) = true := by
  have h : (m % 16).toNat < 16 := by omega
  unfold hexB hexSet
  revert h
  generalize (m % 16).toNat = k
  intro h
  have : ∀ k < 16, ([48, 49, 50, 51, 52, 53, 54, 55, 56, 57, 97, 98, 99, 100, 101, 102] : List UInt8).contains (([48, 49, 50, 51, 52, 53, 54, 55, 56, 57, 97, 98, 99, 100, 101, 102] : List UInt8).getD k 0) = true := by decide
  exact this k h
theorem isDig_digL (t : List UInt8) : isDig (digL t) = true := by
  unfold isDig
  rw [digL_len, decide_eq_true rfl, Bool.true_and, List.all_eq_true]
  intro c hc
  unfold digL hexL at hc
  obtain ⟨i, _, rfl⟩ := List.mem_map.1 hc
  exact hexB_mem _
set_option maxRecDepth 100000 in
set_option maxHeartbeats 4000000 in
theorem votedLaw_any (v0 : Value) (l : List FileR) (v1 : Value) (x : Int) (v2 : Value) (y : Int) (w : World) (h0 : (Rp.sl fileRp).ok w (· < w.heap.size) [v0] l) (f0 : (Rp.sl fileRp).fits l)
    (h1 : (Rp.int .i64).ok w (· < w.heap.size) [v1] x) (f1 : (Rp.int .i64).fits x) (h2 : (Rp.int .i64).ok w (· < w.heap.size) [v2] y) (f2 : (Rp.int .i64).fits y) (hG : GInt w) (hT : TI w) :
    Calls Tryz.prog 3 #[v0, v1, v2] w fun e w' => e = .returned (.bool true) ∧ Below w.heap.size w w' := by
  obtain ⟨e2, hx⟩ := h1
  injection e2 with e2
  subst e2
  obtain ⟨e3, hy⟩ := h2
  injection e3 with e3
  subst e3
  have H0 := Lib.hid h0
  have HG := Lib.hid hG
  have HT := Lib.hid hT
  have HX := Lib.hid hx
  have HY := Lib.hid hy
  have hnm : isNm [98, 111, 120] = true := by decide
  clear f0 f1 f2 h0 hG hT hx hy
  go_enter Tryz.func3, Tryz.ntmps3
  go_wp2_with fail
  refine (packageOf_any [98, 111, 120] v0 l w H0.out HG.out (by decide)).mono ?_
  rintro e w1 ⟨v, rfl, hents, hb1⟩
  by_cases hpf : pkFault [98, 111, 120] l = 0
  case neg =>
    rw [show pkEnts [98, 111, 120] l = [] from if_neg hpf] at hents
    obtain ⟨A, c, rfl, _⟩ := Rp.sl_open hents
    have HAB := Lib.hid (hb1.alloc hb1.size (.cells #[.string (bstr (pkName [98, 111, 120] l)), .slice A 0 c] 25))
    have HTA := Lib.hid (HT.out.ext HAB.out)
    have hkb := Blk.new w1 25 [.string (bstr (pkName [98, 111, 120] l)), .slice A 0 c]
    have k0 : _ = some (Value.string (bstr (pkName [98, 111, 120] l))) := hkb.cell 0
    have k1 : _ = some (Value.slice A 0 c) := hkb.cell 1
    generalize pkName [98, 111, 120] l = nm at *
    generalize pkFault [98, 111, 120] l = f at *
    clear hents hkb
    have hf1 : (f != 0) = true := by rw [bne_iff_ne]; exact hpf
    go_wp2_with fail
    refine (alive_any _ HTA.out).mono ?_
    rintro e w3 ⟨rfl, hb3⟩
    have HB3 := Lib.hid (HAB.out.trans (hb3.mono HAB.out.size))
    clear hb3
    go_wp2_with fail
    go_ret
    exact ⟨rfl, HB3.out⟩
  rw [show pkEnts [98, 111, 120] l = l.map listedOf from if_pos hpf] at hents
  have hff : filesFault l = 0 := by rw [pkFault, if_neg (by rw [hnm]; decide)] at hpf; exact hpf
  have HFF := Lib.hid hff
  rw [show pkName [98, 111, 120] l = [98, 111, 120] from if_pos hpf, hpf]
  have HLE : Hid ((l.map listedOf).length = l.length) := Lib.hid (by simp)
  generalize hL : l.map listedOf = E at *
  have HEM : Hid (∀ j (h : j < E.length) (h' : j < l.length), E[j] = listedOf l[j]) := Lib.hid (fun j h h' => by simp [← hL])
  clear hL
  obtain ⟨A, c, rfl, _⟩ := Rp.sl_open hents
  have HE := Lib.hid hents
  have HAB := Lib.hid (hb1.alloc hb1.size (.cells #[.string (bstr [98, 111, 120]), .slice A E.length c] 25))
  have hA1 := (Below.refl w1.heap.size w1).alloc (Nat.le_refl _) (.cells #[.string (bstr [98, 111, 120]), .slice A E.length c] 25)
  have HK1 := Lib.hid (Blk.new w1 25 [.string (bstr [98, 111, 120]), .slice A E.length c])
  have HOK := Lib.hid (files_ok hff)
  have hll := HOK.out.1
  have HE2 := Lib.hid (Rp.ext _ HE.out hA1)
  clear hents hpf hff hb1 hA1 HE
  go_wp2_with fail
  generalize w1.alloc (.cells #[.string (bstr [98, 111, 120]), .slice A E.length c] 25) = w2 at *
  generalize w1.heap.size = pb at *
  refine (oneByte_any v0 l x y w2 (Rp.ext _ H0.out HAB.out) hll (fun f hf => by obtain ⟨j, hj, rfl⟩ := List.getElem_of_mem hf; exact (HOK.out.2 j hj).2.1) HX.out HY.out).mono ?_
  rintro e w3 ⟨vb, rfl, hbad, hb3⟩
  have HB3 := Lib.hid (HAB.out.trans (hb3.mono HAB.out.size))
  have HE3 := Lib.hid (Rp.ext _ HE2.out hb3)
  have HK3 := Lib.hid (HK1.out.same (same_below hb3) HK1.out.lt)
  have HT3 := Lib.hid (HT.out.ext HB3.out)
  have HG3 := Lib.hid (HG.out.ext HB3.out)
  clear HE2 HK1 HAB hb3 HX HY H0
  by_cases hp : damP l x = []
  · rw [hp]
    have hem0 : (bstr ([] : List UInt8)).toList.isEmpty = true := by rw [bstr_toList]; rfl
    clear hbad hp
    go_wp2_with fail
    refine (alive_any _ HT3.out).mono ?_
    rintro e w4 ⟨rfl, hb4⟩
    have HB4 := Lib.hid (ext_trans HB3.out hb4)
    clear hb4
    go_wp2_with fail
    go_ret
    exact ⟨rfl, HB4.out⟩
  obtain ⟨hf2, m, hm, hlen2, hpm, hoth, hself⟩ := one_files HFF.out x y hp
  have HNE : Hid (∀ j (hj : j < l.length), j ≠ m → l[j].path ≠ l[m].path) := Lib.hid (fun j hj hne => paths_ne HFF.out hj hm hne)
  have hpne : ((bstr (damP l x)).toList.isEmpty) = false := by rw [bstr_toList]; cases hq : damP l x with | nil => exact absurd hq hp | cons _ _ => rfl
  generalize damP l x = P at *
  generalize damL l x y = L2 at *
  have hpk2 : pkFault [98, 111, 120] L2 = 0 := by rw [pkFault, if_neg (by rw [hnm]; decide)]; exact hf2
  have HBAD := Lib.hid hbad
  have HS2 : Hid (L2.length = l.length) := Lib.hid hlen2
  have HM2 : Hid (∀ (h' : m < L2.length), digL L2[m].bytes ≠ digL l[m].bytes) := Lib.hid (fun h' => (hself h').2.2)
  have HPM := Lib.hid hpm
  have HPK := Lib.hid hpk2
  clear hbad hf2 hoth hself hlen2 hpm hp hpk2
  go_wp2_with fail
  refine (packageOf_any [98, 111, 120] vb L2 w3 HBAD.out HG3.out (by decide)).mono ?_
  rintro e w4 ⟨v4, rfl, hents, hb4⟩
  rw [show pkEnts [98, 111, 120] L2 = L2.map listedOf from if_pos HPK.out] at hents
  rw [show pkName [98, 111, 120] L2 = [98, 111, 120] from if_pos HPK.out, HPK.out]
  have HLE2 : Hid ((L2.map listedOf).length = l.length) := Lib.hid (by rw [List.length_map]; exact HS2.out)
  have HM3 : Hid (∀ (h' : m < (L2.map listedOf).length), ((L2.map listedOf)[m]).digest ≠ digL l[m].bytes ∧ isDig ((L2.map listedOf)[m]).digest = true) := Lib.hid (fun h' => by
    rw [List.getElem_map]
    exact ⟨HM2.out (by simpa using h'), isDig_digL _⟩)
  generalize L2.map listedOf = E2 at *
  obtain ⟨A2, c2, rfl, _⟩ := Rp.sl_open hents
  have HAB2 := Lib.hid (hb4.alloc hb4.size (.cells #[.string (bstr [98, 111, 120]), .slice A2 E2.length c2] 25))
  have hA2 := (Below.refl w4.heap.size w4).alloc (Nat.le_refl _) (.cells #[.string (bstr [98, 111, 120]), .slice A2 E2.length c2] 25)
  have HQ1 := Lib.hid (Blk.new w4 25 [.string (bstr [98, 111, 120]), .slice A2 E2.length c2])
  have HF2 := Lib.hid (Rp.ext _ hents hA2)
  have HE4 := Lib.hid (Rp.ext _ HE3.out HAB2.out)
  have HK4 := Lib.hid (HK3.out.same (same_below HAB2.out) HK3.out.lt)
  have HB4 := Lib.hid (ext_trans HB3.out HAB2.out)
  clear hents hb4 hA2 HAB2 HE3 HK3 HB3 HBAD HPK HS2 HM2 HT3 HG3
  have hE1 : (E.length : Int) = (l.length : Int) := by rw [HLE.out]
  have hE2 : (E2.length : Int) = (l.length : Int) := by rw [HLE2.out]
  have hEE : ((E2.length : Int) != (E.length : Int)) = false := by rw [hE1, hE2]; simp
  have k1 : _ = some (Value.slice A E.length c) := HK4.out.cell 1
  have q1 : _ = some (Value.slice A2 E2.length c2) := HQ1.out.cell 1
  clear hE1 hE2
  have hls := (Below.refl (w4.alloc (.cells #[.string (bstr [98, 111, 120]), .slice A2 E2.length c2] 25)).heap.size (w4.alloc (.cells #[.string (bstr [98, 111, 120]), .slice A2 E2.length c2] 25))).alloc (Nat.le_refl _) (.cells #[.string ⟨#[97]⟩, .int .i64 1, .int .i64 0, .string ⟨#[98]⟩, .int .i64 1, .int .i64 0, .string ⟨#[99]⟩, .int .i64 1, .int .i64 0] 33)
  have HSI : Hid ((Rp.sl siteRp).ok ((w4.alloc (.cells #[.string (bstr [98, 111, 120]), .slice A2 E2.length c2] 25)).alloc (.cells #[.string ⟨#[97]⟩, .int .i64 1, .int .i64 0, .string ⟨#[98]⟩, .int .i64 1, .int .i64 0, .string ⟨#[99]⟩, .int .i64 1, .int .i64 0] 33)) (· < ((w4.alloc (.cells #[.string (bstr [98, 111, 120]), .slice A2 E2.length c2] 25)).alloc (.cells #[.string ⟨#[97]⟩, .int .i64 1, .int .i64 0, .string ⟨#[98]⟩, .int .i64 1, .int .i64 0, .string ⟨#[99]⟩, .int .i64 1, .int .i64 0] 33)).heap.size) [.slice (some ⟨(w4.alloc (.cells #[.string (bstr [98, 111, 120]), .slice A2 E2.length c2] 25)).heap.size, 0, none⟩) 3 3] site3) := Lib.hid (Rp.lit (R := siteRp) (f := siteC) (by decide) (fun _ => rfl) (w4.alloc (.cells #[.string (bstr [98, 111, 120]), .slice A2 E2.length c2] 25)) 33 site3 (by decide) site_ok3)
  have HB5 := Lib.hid (ext_trans HB4.out hls)
  have HQ5 := Lib.hid (HQ1.out.alloc_o (.cells #[.string ⟨#[97]⟩, .int .i64 1, .int .i64 0, .string ⟨#[98]⟩, .int .i64 1, .int .i64 0, .string ⟨#[99]⟩, .int .i64 1, .int .i64 0] 33))
  have HK5 := Lib.hid (HK4.out.alloc_o (.cells #[.string ⟨#[97]⟩, .int .i64 1, .int .i64 0, .string ⟨#[98]⟩, .int .i64 1, .int .i64 0, .string ⟨#[99]⟩, .int .i64 1, .int .i64 0] 33))
  have HF5 := Lib.hid (Rp.ext _ HF2.out hls)
  have HE5 := Lib.hid (Rp.ext _ HE4.out hls)
  have hz5 : (w4.alloc (.cells #[.string (bstr [98, 111, 120]), .slice A2 E2.length c2] 25)).heap.size = w4.heap.size + 1 := by simp
  rw [hz5] at HSI
  have kk1 : ((w4.alloc (.cells #[.string (bstr [98, 111, 120]), .slice A2 E2.length c2] 25)).alloc (.cells #[.string ⟨#[97]⟩, .int .i64 1, .int .i64 0, .string ⟨#[98]⟩, .int .i64 1, .int .i64 0, .string ⟨#[99]⟩, .int .i64 1, .int .i64 0] 33)).cell? ⟨pb, 1, none⟩ = some (Value.slice A E.length c) := HK5.out.cell 1
  clear hls HQ1 HK4 HB4 HF2 HE4
  go_wp2_with fail
  clear k1 q1 kk1 hz5
  generalize ((w4.alloc (.cells #[.string (bstr [98, 111, 120]), .slice A2 E2.length c2] 25)).alloc (.cells #[.string ⟨#[97]⟩, .int .i64 1, .int .i64 0, .string ⟨#[98]⟩, .int .i64 1, .int .i64 0, .string ⟨#[99]⟩, .int .i64 1, .int .i64 0] 33)) = w6 at *
  generalize w4.heap.size + 1 = sb at *
  generalize w4.heap.size = qb at *
  have hmE : m < E.length := by rw [HLE.out]; exact hm
  have hmE2 : m < E2.length := by rw [HLE2.out]; exact hm
  have hed : E[m].digest = digL l[m].bytes := by rw [HEM.out m hmE hm]; rfl
  have hEP : ∀ k (h : k < E.length), E[k].path = P ↔ k = m := fun k h => by
    have hk : k < l.length := by rw [← HLE.out]; exact h
    rw [HEM.out k h hk, HPM.out]
    refine ⟨fun e => ?_, fun e => by subst e; rfl⟩
    rcases Nat.decEq k m with hne | he
    · exact absurd e (HNE.out k hk hne)
    · exact he
  have HEP := Lib.hid hEP
  have hdd := isDig_digL l[m].bytes
  obtain ⟨hne0, hee⟩ := HM3.out hmE2
  generalize hde : digL l[m].bytes = d at *
  generalize hee2 : E2[m].digest = e at *
  have HDD := Lib.hid hdd
  have HEE := Lib.hid hee
  have HNED := Lib.hid hne0
  have hdl : d.length ≤ 1000 := by rw [isDig_len hdd]; decide
  have hel : e.length ≤ 1000 := by rw [isDig_len hee]; decide
  have HED := Lib.hid hed
  have HE2D := Lib.hid hee2
  have hml : E.length ≤ 500 := by rw [HLE.out]; exact hll
  clear hEP hdd hne0 hee hde hed hee2 HM3 HNE HEM HOK HPM hpne hEE
  go_loopw [13, 14, 68] (fun vl vr vi wr => ∃ (k : Nat) (l1 r1 : Value), k ≤ E.length ∧ l1 = vl ∧ r1 = vr ∧ vi = .int .i64 k ∧ Hid (Below w6.heap.size w6 wr) ∧ Hid ((k ≤ m ∧ l1 = .slice none 0 0 ∧ r1 = .string ⟨#[]⟩) ∨ (m < k ∧ ∃ g, l1 = .slice (some ⟨g, 0, none⟩) 3 3 ∧ r1 = .string (bstr d) ∧ Hid ((Rp.sl heldRp).ok wr (· < wr.heap.size) [.slice (some ⟨g, 0, none⟩) 3 3] (held3 d e))))) (fun _ _ vi _ => E.length - (intOf vi).toNat)
  case atStart => exact ⟨0, _, _, by omega, rfl, rfl, rfl, Below.refl _ _, Lib.hid (.inl ⟨by omega, rfl, rfl⟩)⟩
  case round =>
    obtain ⟨k, l1, r1, hk, rfl, rfl, rfl, HB, HST⟩ := hrel
    by_cases hlt : k < E.length
    · obtain ⟨ad, c', e1, hadb, c0, c1, c2', _, _⟩ := ent_at (Rp.ext _ HE5.out HB.out) hlt
      cases e1
      have hmL : (k : Int) < (E.length : Int) := by omega
      by_cases hkm : k = m
      · subst hkm
        have hpth := (HEP.out k hlt).2 rfl
        rw [hpth] at c0
        rw [HED.out] at c2'
        clear hpth
        generalize E[k].size = sz at *
        generalize P = pth at *
        have HXB0 := Lib.hid (Blk.new wr 37 [.string (bstr pth), .int .i64 sz, .string (bstr d)])
        have hal0 := (Below.refl wr.heap.size wr).alloc (Nat.le_refl _) (.cells #[.string (bstr pth), .int .i64 sz, .string (bstr d)] 37)
        have HBX0 := Lib.hid (ext_trans HB.out hal0)
        have hbp : ((bstr pth).toList == (bstr pth).toList) = true := beq_self_eq_true _
        have x2c0 : _ = some (Value.string (bstr d)) := HXB0.out.cell 2
        have x0c0 : _ = some (Value.string (bstr pth)) := HXB0.out.cell 0
        clear hal0 HST
        obtain ⟨ad2, c'', e1, hadb2, d0, d1, d2, _, _⟩ := ent_at (Rp.ext _ HF5.out HBX0.out) hmE2
        cases e1
        rw [HE2D.out] at d2
        have HQX0 := Lib.hid (HQ5.out.same (same_below HBX0.out) HQ5.out.lt)
        have hadx0 : (ad2.add (k * 3)).block < (wr.alloc (.cells #[.string (bstr pth), .int .i64 sz, .string (bstr d)] 37)).heap.size := by rw [add_block]; exact hadb2
        have hmL2 : (k : Int) < (E2.length : Int) := by omega
        clear d0 d1
        go_wp2_with fail
        clear c0 c1 c2' x0c0 hbp
        generalize wr.alloc (.cells #[.string (bstr pth), .int .i64 sz, .string (bstr d)] 37) = wx at *
        generalize wr.heap.size = xb at *
        have q1c : _ = some (Value.slice (some ad2) E2.length c2) := HQX0.out.cell 1
        refine wp_region_held_drew (S := fun w' => Below wx.heap.size wx w') (by kernel_rfl) (Below.drew (Below.refl _ _)) (fun hHeld0 => ?_)
        obtain ⟨wq, hwq⟩ : ∃ wq, wq = World.drew wx := ⟨_, rfl⟩
        have hHeld : Below wx.heap.size wx wq := by rw [hwq]; exact Below.drew (Below.refl _ _)
        rw [← hwq] at hHeld0 ⊢
        clear hHeld0 hwq
        refine wpAnyH_take (i := 0) (v := ?_) rfl (by kernel_rfl) (by kernel_rfl) (by kernel_rfl) (fun _ _ _ h => h) (Or.inl ⟨by rfl, ?_⟩) (by assumption) ?_
        rotate_left
        · (intro w hSw; go_simp; try with_reducible rfl)
        try simp only [List.getElem_toArray, List.getElem_cons_succ, List.getElem_cons_zero, Act.put, List.setIfInBounds_toArray, List.set_cons_zero, List.set_cons_succ]
        refine wpAnyH_take (i := 1) (v := ?_) rfl (by kernel_rfl) (by kernel_rfl) (by kernel_rfl) (fun _ _ _ h => h) (Or.inl ⟨by rfl, ?_⟩) (by assumption) ?_
        rotate_left
        · (intro w hSw; have q0 := (hSw.cell (p := ⟨xb, 2, none⟩) HXB0.out.lt).trans x2c0; go_simp; try with_reducible rfl)
        try simp only [List.getElem_toArray, List.getElem_cons_succ, List.getElem_cons_zero, Act.put, List.setIfInBounds_toArray, List.set_cons_zero, List.set_cons_succ]
        refine wpAnyH_take (i := 2) (v := ?_) rfl (by kernel_rfl) (by kernel_rfl) (by kernel_rfl) (fun _ _ _ h => h) (Or.inl ⟨by rfl, ?_⟩) (by assumption) ?_
        rotate_left
        · (intro w hSw; go_simp; try with_reducible rfl)
        try simp only [List.getElem_toArray, List.getElem_cons_succ, List.getElem_cons_zero, Act.put, List.setIfInBounds_toArray, List.set_cons_zero, List.set_cons_succ]
        refine wpAnyH_take (i := 3) (v := ?_) rfl (by kernel_rfl) (by kernel_rfl) (by kernel_rfl) (fun _ _ _ h => h) (Or.inl ⟨by rfl, ?_⟩) (by assumption) ?_
        rotate_left
        · (intro w hSw; go_simp; try with_reducible rfl)
        try simp only [List.getElem_toArray, List.getElem_cons_succ, List.getElem_cons_zero, Act.put, List.setIfInBounds_toArray, List.set_cons_zero, List.set_cons_succ]
        refine wpAnyH_take (i := 4) (v := ?_) rfl (by kernel_rfl) (by kernel_rfl) (by kernel_rfl) (fun _ _ _ h => h) (Or.inl ⟨by rfl, ?_⟩) (by assumption) ?_
        rotate_left
        · (intro w hSw; have q0 := (hSw.cell (p := ⟨qb, 1, none⟩) HQX0.out.lt).trans q1c; go_simp; try with_reducible rfl)
        try simp only [List.getElem_toArray, List.getElem_cons_succ, List.getElem_cons_zero, Act.put, List.setIfInBounds_toArray, List.set_cons_zero, List.set_cons_succ]
        refine wpAnyH_take (i := 5) (v := ?_) rfl (by kernel_rfl) (by kernel_rfl) (by kernel_rfl) (fun _ _ _ h => h) (Or.inl ⟨by rfl, ?_⟩) (by assumption) ?_
        rotate_left
        · (intro w hSw; go_simp; try with_reducible rfl)
        try simp only [List.getElem_toArray, List.getElem_cons_succ, List.getElem_cons_zero, Act.put, List.setIfInBounds_toArray, List.set_cons_zero, List.set_cons_succ]
        refine wpAnyH_take (i := 6) (v := ?_) rfl (by kernel_rfl) (by kernel_rfl) (by kernel_rfl) (fun _ _ _ h => h) (Or.inl ⟨by rfl, ?_⟩) (by assumption) ?_
        rotate_left
        · (intro w hSw; go_simp; (try rw [if_pos (by omega)]); (try rw [Int.toNat_natCast]); try with_reducible rfl)
        try simp only [List.getElem_toArray, List.getElem_cons_succ, List.getElem_cons_zero, Act.put, List.setIfInBounds_toArray, List.set_cons_zero, List.set_cons_succ]
        refine wpAnyH_take (i := 7) (v := ?_) rfl (by kernel_rfl) (by kernel_rfl) (by kernel_rfl) (fun _ _ _ h => h) (Or.inl ⟨by rfl, ?_⟩) (by assumption) ?_
        rotate_left
        · (intro w hSw; go_simp; try with_reducible rfl)
        try simp only [List.getElem_toArray, List.getElem_cons_succ, List.getElem_cons_zero, Act.put, List.setIfInBounds_toArray, List.set_cons_zero, List.set_cons_succ]
        refine wpAnyH_take (i := 8) (v := ?_) rfl (by kernel_rfl) (by kernel_rfl) (by kernel_rfl) (fun _ _ _ h => h) (Or.inl ⟨by rfl, ?_⟩) (by assumption) ?_
        rotate_left
        · (intro w hSw; have q0 := (hSw.cell (p := ⟨(ad2.add (k * 3)).block, (ad2.add (k * 3)).off + 2, none⟩) hadx0).trans d2; go_simp; try with_reducible rfl)
        try simp only [List.getElem_toArray, List.getElem_cons_succ, List.getElem_cons_zero, Act.put, List.setIfInBounds_toArray, List.set_cons_zero, List.set_cons_succ]
        refine wpAnyH_take (i := 9) (v := ?_) rfl (by kernel_rfl) (by kernel_rfl) (by kernel_rfl) (fun _ _ _ h => h) (Or.inl ⟨by rfl, ?_⟩) (by assumption) ?_
        rotate_left
        · (intro w hSw; go_simp; try with_reducible rfl)
        try simp only [List.getElem_toArray, List.getElem_cons_succ, List.getElem_cons_zero, Act.put, List.setIfInBounds_toArray, List.set_cons_zero, List.set_cons_succ]
        refine wpAnyH_take (i := 10) (v := ?_) rfl (by kernel_rfl) (by kernel_rfl) (by kernel_rfl) (fun _ _ _ h => h) (Or.inl ⟨by rfl, ?_⟩) (by assumption) ?_
        rotate_left
        · (intro w hSw; go_simp; try with_reducible rfl)
        try simp only [List.getElem_toArray, List.getElem_cons_succ, List.getElem_cons_zero, Act.put, List.setIfInBounds_toArray, List.set_cons_zero, List.set_cons_succ]
        refine wpAnyH_take (i := 11) (v := ?_) rfl (by kernel_rfl) (by kernel_rfl) (by kernel_rfl) (fun _ _ _ h => h) (Or.inl ⟨by rfl, ?_⟩) (by assumption) ?_
        rotate_left
        · (intro w hSw; have q0 := (hSw.cell (p := ⟨xb, 2, none⟩) HXB0.out.lt).trans x2c0; go_simp; try with_reducible rfl)
        try simp only [List.getElem_toArray, List.getElem_cons_succ, List.getElem_cons_zero, Act.put, List.setIfInBounds_toArray, List.set_cons_zero, List.set_cons_succ]
        refine wpAnyH_take (i := 12) (v := ?_) rfl (by kernel_rfl) (by kernel_rfl) (by kernel_rfl) (fun _ _ _ h => h) (Or.inl ⟨by rfl, ?_⟩) (by assumption) ?_
        rotate_left
        · (intro w hSw; go_simp; try with_reducible rfl)
        try simp only [List.getElem_toArray, List.getElem_cons_succ, List.getElem_cons_zero, Act.put, List.setIfInBounds_toArray, List.set_cons_zero, List.set_cons_succ]
        refine wpAnyH_ready (rs := [13]) (by kernel_rfl) (by simp) ?_
        refine AllReadyH.cons rfl (fun K hK => ?_) AllReadyH.nil
        rw [if_pos (by rfl)]
        simp only [List.getElem_toArray, List.getElem_cons_succ, List.getElem_cons_zero]
        go_simp
        have hal := (Below.refl wq.heap.size wq).alloc (Nat.le_refl _) (.cells #[.string ⟨#[120]⟩, .string ⟨#[97]⟩, .string (bstr d), .string ⟨#[120]⟩, .string ⟨#[98]⟩, .string (bstr e), .string ⟨#[120]⟩, .string ⟨#[99]⟩, .string (bstr d)] 39)
        have HHD : Hid ((Rp.sl heldRp).ok (wq.alloc (.cells #[.string ⟨#[120]⟩, .string ⟨#[97]⟩, .string (bstr d), .string ⟨#[120]⟩, .string ⟨#[98]⟩, .string (bstr e), .string ⟨#[120]⟩, .string ⟨#[99]⟩, .string (bstr d)] 39)) (· < (wq.alloc (.cells #[.string ⟨#[120]⟩, .string ⟨#[97]⟩, .string (bstr d), .string ⟨#[120]⟩, .string ⟨#[98]⟩, .string (bstr e), .string ⟨#[120]⟩, .string ⟨#[99]⟩, .string (bstr d)] 39)).heap.size) [.slice (some ⟨wq.heap.size, 0, none⟩) 3 3] (held3 d e)) := Lib.hid (Rp.lit (R := heldRp) (f := heldCells) (by decide) (fun _ => rfl) wq 39 (held3 d e) (by show 3 ≤ maxLen; decide) (held_ok3 hdl hel))
        have hbn := ext_trans hHeld hal
        have HBN := Lib.hid (ext_trans HBX0.out hbn)
        refine hK.out _ _ hbn (fun hHeld => ?_)
        clear hK K hal hbn
        try simp only [List.getElem_toArray, List.getElem_cons_succ, List.getElem_cons_zero, Act.put, List.setIfInBounds_toArray, List.set_cons_zero, List.set_cons_succ]
        refine wpAnyH_take (i := 14) (v := ?_) rfl (by kernel_rfl) (by kernel_rfl) (by kernel_rfl) (fun _ _ _ h => h) (Or.inl ⟨by rfl, ?_⟩) (by assumption) ?_
        rotate_left
        · (intro w hSw; go_simp; try with_reducible rfl)
        try simp only [List.getElem_toArray, List.getElem_cons_succ, List.getElem_cons_zero, Act.put, List.setIfInBounds_toArray, List.set_cons_zero, List.set_cons_succ]
        refine wpAnyH_done (by kernel_rfl) ?_ _
        clear hHeld
        generalize wq.alloc (.cells #[.string ⟨#[120]⟩, .string ⟨#[97]⟩, .string (bstr d), .string ⟨#[120]⟩, .string ⟨#[98]⟩, .string (bstr e), .string ⟨#[120]⟩, .string ⟨#[99]⟩, .string (bstr d)] 39) = wn at *
        generalize wq.heap.size = g at *
        go_wp2_with fail
        go_roundw
        case rel => exact ⟨k + 1, _, _, by omega, rfl, rfl, by go_num, HBN, Lib.hid (.inr ⟨by omega, g, rfl, rfl, HHD⟩)⟩
        case measure => simp [intOf]; omega
      · have hpn : (E[k].path = P) = False := by rw [eq_iff_iff, HEP.out k hlt]; exact ⟨fun h => hkm h, False.elim⟩
        have hbp : ((bstr E[k].path).toList == (bstr P).toList) = false := str_bne (fun e => by rw [← hpn]; exact bstr_inj e)
        clear hpn
        generalize E[k] = x at *
        have HXB0 := Lib.hid (Blk.new wr 37 [.string (bstr x.path), .int .i64 x.size, .string (bstr x.digest)])
        have hal0 := (Below.refl wr.heap.size wr).alloc (Nat.le_refl _) (.cells #[.string (bstr x.path), .int .i64 x.size, .string (bstr x.digest)] 37)
        have HBX0 := Lib.hid (ext_trans HB.out hal0)
        have HAL0 := Lib.hid hal0
        have x0c0 : _ = some (Value.string (bstr x.path)) := HXB0.out.cell 0
        clear hal0
        go_wp2_with fail
        go_roundw
        case rel => exact ⟨k + 1, _, _, by omega, rfl, rfl, by go_num, HBX0, Lib.hid (by
          rcases HST.out with ⟨h1, h2, h3⟩ | ⟨h1, g, h2, h3, h4⟩
          · exact .inl ⟨by omega, h2, h3⟩
          · exact .inr ⟨by omega, g, h2, h3, Lib.hid (Rp.ext _ h4.out HAL0.out)⟩)⟩
        case measure => simp [intOf]; omega
    · obtain rfl : k = E.length := by omega
      obtain ⟨g, hl1, hr1, HL⟩ : ∃ g, l1 = .slice (some ⟨g, 0, none⟩) 3 3 ∧ r1 = .string (bstr d) ∧ Hid ((Rp.sl heldRp).ok wr (· < wr.heap.size) [.slice (some ⟨g, 0, none⟩) 3 3] (held3 d e)) := by
        rcases HST.out with ⟨h, _⟩ | ⟨_, h⟩
        · omega
        · exact h
      subst hl1 hr1
      have HBW := Lib.hid (ext_trans HB5.out HB.out)
      have HSI1 := Lib.hid (Rp.ext _ HSI.out HB.out)
      have HTW := Lib.hid (HT.out.ext HBW.out)
      clear HST HK5 HF5 HE5 HQ5 HSI HB HB5 HEP HED HE2D HLE HLE2 hmE hmE2 hm hk hlt hml HT HG HFF
      go_wp2_with fail
      refine (votesTop_any _ site3 _ (held3 d e) wr HSI1.out HL.out).mono ?_
      rintro e1 wv ⟨vv, rfl, hv, hb⟩
      rw [votesTopL, if_pos (copies3 HDD.out HEE.out), votes3, vote3 HNED.out] at hv
      rw [copies3 HDD.out HEE.out]
      have HBV := Lib.hid (ext_trans HBW.out hb)
      have HSI2 := Lib.hid (Rp.ext _ HSI1.out hb)
      have HL2 := Lib.hid (Rp.ext _ HL.out hb)
      have HTV := Lib.hid (HTW.out.ext hb)
      obtain ⟨ad, cv, x3, x4, e2, hadb, c0, c1, c2', c3', _, _, hr, hw⟩ := votes_at hv (show 0 < [_].length by simp)
      subst e2
      have e0 : ad.add (0 * 4) = ad := by unfold Addr.add; simp
      rw [e0] at c0 c1 c2' c3'
      simp only [List.getElem_cons_zero] at c0 c1 c2' c3' hr hw
      have hlb := (Below.refl wv.heap.size wv).alloc (Nat.le_refl _) (.cells #[.string ⟨#[98]⟩] 9)
      have HBB := Lib.hid hlb
      have HWR := Lib.hid (Rp.ext _ hw hlb)
      have HLB := Lib.hid (lit_strs wv [⟨#[98]⟩] (by intro x hx; rw [List.mem_singleton] at hx; subst hx; decide) (by decide))
      have b1 : ((bstr d).toList != (bstr d).toList) = false := by simp
      clear hb hv hlb hr hw e0 c0 c2' hadb HBW HSI1 HL HTW
      go_wp2_with fail
      refine (eqStrs_any x4 _ [bstr [98]] [bstr [98]] _ _ _ HWR.out HLB.out).mono ?_
      rintro e3 we ⟨rfl, n, hwe⟩
      rw [decide_eq_true rfl]
      have hbe : Below wv.heap.size wv we := by rw [hwe]; exact below_drewN HBB.out n
      have HBE := Lib.hid (ext_trans HBV.out hbe)
      have HSI3 := Lib.hid (Rp.ext _ HSI2.out hbe)
      have HL3 := Lib.hid (Rp.ext _ HL2.out hbe)
      have HTE := Lib.hid (HTV.out.ext hbe)
      clear hbe hwe HBB HWR HLB c1 c3' b1 HBV HSI2 HL2 HTV
      go_wp2_with fail
      refine (alive_any _ HTE.out).mono ?_
      rintro e4 wa ⟨rfl, hb⟩
      have HBA := Lib.hid (ext_trans HBE.out hb)
      have HSI4 := Lib.hid (Rp.ext _ HSI3.out hb)
      have HL4 := Lib.hid (Rp.ext _ HL3.out hb)
      have hcb := (Below.refl wa.heap.size wa).alloc (Nat.le_refl _) (.cells #[.string ⟨#[99]⟩, .string ⟨#[98]⟩, .int .i64 0] 51)
      have HCC : Hid ((Rp.sl cstRp).ok (wa.alloc (.cells #[.string ⟨#[99]⟩, .string ⟨#[98]⟩, .int .i64 0] 51)) (· < (wa.alloc (.cells #[.string ⟨#[99]⟩, .string ⟨#[98]⟩, .int .i64 0] 51)).heap.size) [.slice (some ⟨wa.heap.size, 0, none⟩) 1 1] cost3) := Lib.hid (Rp.lit (R := cstRp) (f := cstCells) (by decide) (fun _ => rfl) wa 51 cost3 (by decide) cost_ok3)
      have HBC := Lib.hid (ext_trans HBA.out hcb)
      have HSI5 := Lib.hid (Rp.ext _ HSI4.out hcb)
      have HL5 := Lib.hid (Rp.ext _ HL4.out hcb)
      clear hb hcb HBE HSI3 HL3 HTE HBA HSI4 HL4
      go_wp2_with fail
      generalize wa.alloc (.cells #[.string ⟨#[99]⟩, .string ⟨#[98]⟩, .int .i64 0] 51) = wc at *
      refine (repairs_any _ site3 _ (held3 d e) _ cost3 1 wc HSI5.out HL5.out HCC.out).mono ?_
      rintro e5 wr2 ⟨r1, r2, rfl, hx1, hx2, hb⟩
      obtain ⟨hf0, ho0⟩ := repF3 HDD.out HEE.out HNED.out
      rw [ho0] at hx1 hx2
      rw [hf0]
      have HBR := Lib.hid (ext_trans HBC.out hb)
      have HSI6 := Lib.hid (Rp.ext _ HSI5.out hb)
      have HL6 := Lib.hid (Rp.ext _ HL5.out hb)
      have HR1 := Lib.hid hx1
      obtain ⟨A5, c5, rfl, _⟩ := Rp.sl_open hx1
      obtain ⟨A6, c6, rfl, _⟩ := Rp.sl_open hx2
      clear hb hx1 hx2 hf0 ho0 HBC HSI5 HL5 HCC
      go_wp2_with fail
      refine (after_any _ site3 _ (held3 d e) _ rep3 wr2 HSI6.out HL6.out HR1.out).mono ?_
      rintro e6 wf ⟨va, rfl, hxa, hb⟩
      obtain ⟨hf0, ho0⟩ := aftF3 HDD.out HEE.out
      rw [ho0] at hxa
      rw [hf0]
      have HBF := Lib.hid (ext_trans HBR.out hb)
      have HSI7 := Lib.hid (Rp.ext _ HSI6.out hb)
      have HVA := Lib.hid hxa
      obtain ⟨A7, c7, rfl, _⟩ := Rp.sl_open hxa
      clear hb hxa hf0 ho0 HBR HSI6 HL6 HR1
      go_wp2_with fail
      refine (votesTop_any _ site3 _ (held3 d d) wf HSI7.out HVA.out).mono ?_
      rintro e7 wz ⟨vv, rfl, hv, hb⟩
      rw [votesTopL, if_pos (copies3 HDD.out HDD.out), votes3, vote3s] at hv
      rw [copies3 HDD.out HDD.out]
      have HBZ := Lib.hid (ext_trans HBF.out hb)
      obtain ⟨ad, cv, x3, x4, e2, hadb, c0, c1, c2', c3', _, _, hr, hw⟩ := votes_at hv (show 0 < [_].length by simp)
      subst e2
      have e0 : ad.add (0 * 4) = ad := by unfold Addr.add; simp
      rw [e0] at c0 c1 c2' c3'
      simp only [List.getElem_cons_zero] at c0 c1 c2' c3' hr hw
      obtain ⟨A8, c8, rfl, _⟩ := Rp.sl_open hr
      clear hb hv hr hw e0 c0 c1 c3' hadb HSI7 HVA HBF
      go_wp2_with fail
      go_ret
      exact ⟨rfl, HBZ.out⟩
end Go.Proofs.YtpmonhilfpfiaaaGreatDoor
