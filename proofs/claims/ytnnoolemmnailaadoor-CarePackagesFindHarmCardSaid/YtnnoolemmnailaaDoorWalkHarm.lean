/-
  The law 'CarePackagesFindHarm' walked: it returns true.
-/
import Derived.Test.YtnnoolemmnailaaDoorOpen
import Derived.Test.YtnnoolemmnailaaDoorHarmPlain
import Derived.Test.YtnnoolemmnailaaDoorAwake11
namespace Go.Proofs.YtnnoolemmnailaaDoor
open Go.RowKit
set_option linter.unusedVariables false
set_option linter.unusedSimpArgs false

theorem opens_bytes : Opens Tryd.prog 46 (Rp.sl Rp.u8) := opens_sl Tryd.underlying46 (by kernel_rfl) (by decide) (of_decide_eq_true (by kernel_rfl)) (opens_u8 Tryd.underlying5)
theorem strV_back (p : ByteArray × List UInt8) : (bstr p.1.data.toList, p.2) = p := by rw [bstr_eq]
theorem opens_file : Opens Tryd.prog 160 fileRp := by
  refine opens_via _ (fun p => ⟨p.1.data.toList, p.2⟩) strV_back ?_
  refine opens_struct Tryd.underlying160 (by kernel_rfl) ?_
  refine opensF_cons (by rfl) (by kernel_rfl) (opens_str Tryd.underlying9) ?_
  exact opensF_one (by rfl) (by kernel_rfl) opens_bytes
theorem opens_files : Opens Tryd.prog 94 (Rp.sl fileRp) := opens_sl Tryd.underlying94 (by kernel_rfl) (by decide) (of_decide_eq_true (by kernel_rfl)) opens_file
theorem def_at {w : World} {S : Nat → Prop} {v : Value} {d : Def} (h : (Rp.sl defRp).ok w S [v] [d]) : ∃ ad c, v = .slice (some ad) 1 c ∧ w.cell? ad = some (.string (bstr d.path)) ∧ w.cell? ⟨ad.block, ad.off + 1, none⟩ = some (.int .i64 d.kind) := by
  obtain ⟨A, c, rfl, _⟩ := Rp.sl_open h
  obtain ⟨ad, us, rfl, _, hb, hu, hcell⟩ := Rp.sl_at h (show 0 < [d].length by simp)
  obtain ⟨_, _, rfl, ⟨rfl, _⟩, ⟨rfl, _⟩⟩ := hu
  have c0 := hcell 0 _ rfl
  have c1 := hcell 1 _ rfl
  rw [Nat.zero_mul, Nat.zero_add] at c0
  have e0 : ad.add 0 = ad := by unfold Addr.add; rw [if_pos rfl]
  rw [e0] at c0
  rw [Nat.zero_mul, Nat.zero_add] at c1
  refine ⟨ad, c, rfl, c0, ?_⟩
  have := add_fld ad 0 1 (by decide)
  rw [Nat.zero_add, e0] at this
  rw [← this]
  exact c1
set_option maxRecDepth 100000 in
set_option maxHeartbeats 4000000 in
theorem harmLaw_any (v0 : Value) (s0 : ByteArray) (v1 : Value) (l : List FileR) (v2 : Value) (x : Int) (v3 : Value) (y : Int) (w : World) (h0 : Rp.str.ok w (· < w.heap.size) [v0] s0) (f0 : Rp.str.fits s0)
    (h1 : (Rp.sl fileRp).ok w (· < w.heap.size) [v1] l) (f1 : (Rp.sl fileRp).fits l) (h2 : (Rp.int .i64).ok w (· < w.heap.size) [v2] x) (f2 : (Rp.int .i64).fits x) (h3 : (Rp.int .i64).ok w (· < w.heap.size) [v3] y) (f3 : (Rp.int .i64).fits y) (hG : GInt w) :
    Calls Tryd.prog 13 #[v0, v1, v2, v3] w fun e w' => e = .returned (.bool true) ∧ Below w.heap.size w w' := by
  obtain ⟨e0, z0⟩ := h0
  injection e0 with e0
  subst e0
  obtain ⟨n, rfl⟩ : ∃ a, s0 = bstr a := ⟨_, (bstr_eq s0).symm⟩
  rw [bstr_size] at z0
  obtain ⟨e2, hx⟩ := h2
  injection e2 with e2
  subst e2
  obtain ⟨e3, hy⟩ := h3
  injection e3 with e3
  subst e3
  unfold maxLen at z0
  have hn : n.length ≤ 9223372036854775807 := by omega
  have H1 := Lib.hid h1
  have HG := Lib.hid hG
  have HX := Lib.hid hx
  have HY := Lib.hid hy
  clear f0 f1 f2 f3 h1 hG hx hy z0
  go_enter Tryd.func13, Tryd.ntmps13
  go_wp2_with fail
  refine (packageOf_any n v1 l w H1.out HG.out hn).mono ?_
  rintro e w1 ⟨v, rfl, hents, hb1⟩
  by_cases hpf : pkFault n l = 0
  case neg =>
    rw [show pkEnts n l = [] from if_neg hpf] at hents
    obtain ⟨A, c, rfl, _⟩ := Rp.sl_open hents
    have HAB := Lib.hid (hb1.alloc hb1.size (.cells #[.string (bstr (pkName n l)), .slice A 0 c] 97))
    have hkb := Blk.new w1 97 [.string (bstr (pkName n l)), .slice A 0 c]
    have k0 : _ = some (Value.string (bstr (pkName n l))) := hkb.cell 0
    have k1 : _ = some (Value.slice A 0 c) := hkb.cell 1
    generalize pkName n l = nm at *
    generalize pkFault n l = f at *
    clear hents hkb
    have hf1 : (f == 0) = false := by rw [beq_eq_false_iff_ne]; exact hpf
    go_wp2_with (go_at_call 16; refine (awake_any _).mono ?_; rintro e w3 ⟨rfl, hb3⟩)
    go_ret
    exact ⟨rfl, HAB.out.trans (hb3.mono HAB.out.size)⟩
  rw [show pkEnts n l = l.map listedOf from if_pos hpf] at hents
  have hnm : isNm n = true := by
    cases h : isNm n with
    | true => rfl
    | false => rw [pkFault, if_pos h] at hpf; exact absurd hpf (by decide)
  have hff : filesFault l = 0 := by rw [pkFault, if_neg (by rw [hnm]; decide)] at hpf; exact hpf
  have hpm := pack_made hnm hff
  have hwr : wrFault n (l.map listedOf) l = 0 := by rw [wrFault, if_pos hpm]; exact hff
  obtain ⟨hd1, hd2, hd3⟩ := dam_wrong hff x y
  have hwr2 : wrFault n (l.map listedOf) (damL l x y) = 0 := by rw [wrFault, if_pos hpm]; exact hd1
  have HW1 : Hid (wrFault n (l.map listedOf) l = 0 ∧ wrongL (l.map listedOf) l = []) := Lib.hid ⟨hwr, wrong_none hff⟩
  have HW2 := Lib.hid hwr2
  have HD2 := Lib.hid hd2
  have HD3 := Lib.hid hd3
  have HOK := Lib.hid (files_ok hff)
  rw [show pkName n l = n from if_pos hpf, hpf]
  obtain ⟨A, c, rfl, _⟩ := Rp.sl_open hents
  have HE := Lib.hid hents
  have HAB := Lib.hid (hb1.alloc hb1.size (.cells #[.string (bstr n), .slice A (l.map listedOf).length c] 97))
  have HA1 := Lib.hid ((Below.refl w1.heap.size w1).alloc (Nat.le_refl _) (.cells #[.string (bstr n), .slice A (l.map listedOf).length c] 97))
  have hkb := Blk.new w1 97 [.string (bstr n), .slice A (l.map listedOf).length c]
  have k0 : _ = some (Value.string (bstr n)) := hkb.cell 0
  have k1 : _ = some (Value.slice A (l.map listedOf).length c) := hkb.cell 1
  have HKB := Lib.hid hkb
  have hlt0 : w1.heap.size < (w1.alloc (.cells #[.string (bstr n), .slice A (l.map listedOf).length c] 97)).heap.size := by simp
  clear hents hkb hpf hnm hff hpm hwr hwr2 hd1 hd2 hd3 hb1
  generalize hL : l.map listedOf = E at *
  clear hL
  go_wp2_with fail
  refine (wrong_any n _ E v1 l _ (Rp.ext _ HE.out HA1.out) (Rp.ext _ H1.out HAB.out) (HG.out.ext HAB.out) hn).mono ?_
  rintro e w2 ⟨v2, out, rfl, hout, hb2, hperm, _⟩
  have ho : out = [] := by
    have := (hperm HW1.out.1).1
    rw [HW1.out.2] at this
    exact List.Perm.eq_nil this
  subst ho
  obtain ⟨A2, c2, rfl, _⟩ := Rp.sl_open hout
  rw [HW1.out.1]
  have HB2 := Lib.hid (HAB.out.trans (hb2.mono HAB.out.size))
  have HC2 := Lib.hid (HA1.out.trans (hb2.mono HA1.out.size))
  have HK2 := Lib.hid (HKB.out.same (same_below hb2) hlt0)
  have hlt2 : w1.heap.size < w2.heap.size := by have := hb2.size; omega
  clear hperm hout hb2 k0 k1 HKB HAB HA1 hlt0
  go_wp2_with (go_at_call 16; refine (awake_any _).mono ?_; rintro e w3 ⟨rfl, hb3⟩)
  have HB3 := Lib.hid (HB2.out.trans (hb3.mono HB2.out.size))
  have HC3 := Lib.hid (HC2.out.trans (hb3.mono HC2.out.size))
  have HK3 := Lib.hid (HK2.out.same (same_below hb3) hlt2)
  have hlt3 : w1.heap.size < w3.heap.size := by have := hb3.size; omega
  clear hb3 HB2 HC2 HK2 hlt2
  refine (damaged_any v1 l x y w3 (Rp.ext _ H1.out HB3.out) HOK.out.1 (fun f hf => by obtain ⟨j, hj, rfl⟩ := List.mem_iff_getElem.1 hf; exact (HOK.out.2 j hj).2.1) HX.out HY.out).mono ?_
  rintro e w4 ⟨v4, rfl, hbad, hb4⟩
  have HB4 := Lib.hid (HB3.out.trans (hb4.mono HB3.out.size))
  have HC4 := Lib.hid (HC3.out.trans (hb4.mono HC3.out.size))
  have hk4 := HK3.out.same (same_below hb4) hlt3
  have k0 : w4.cell? ⟨w1.heap.size, 0, none⟩ = some (.string (bstr n)) := hk4.cell 0
  have k1 : w4.cell? ⟨w1.heap.size, 1, none⟩ = some (.slice A E.length c) := hk4.cell 1
  have HBAD := Lib.hid hbad
  clear hb4 HB3 HC3 HK3 hlt3 hbad hk4
  go_wp2_with fail
  refine (wrong_any n _ E v4 (damL l x y) w4 (Rp.ext _ HE.out HC4.out) HBAD.out (HG.out.ext HB4.out) hn).mono ?_
  rintro e w5 ⟨v5, out2, rfl, hout, hb5, hperm, _⟩
  rw [HW2.out]
  have HB5 := Lib.hid (HB4.out.trans (hb5.mono HB4.out.size))
  have hpm := (hperm HW2.out).1
  clear hperm hb5 k0 k1 HB4 HC4 HBAD
  by_cases hp : damP l x = []
  · rw [HD2.out hp] at hpm
    obtain rfl : out2 = [] := List.Perm.eq_nil hpm
    obtain ⟨A5, c5, rfl, _⟩ := Rp.sl_open hout
    have b1 : ((bstr (damP l x)).toList == (ByteArray.mk #[]).toList) = true := str_beq (by rw [hp]; rfl)
    have b0 : (bstr (damP l x)).toList.isEmpty = true := by rw [bstr_toList, hp]; rfl
    clear hpm hout hp
    generalize damP l x = dp at *
    go_wp2_with fail
    go_ret
    exact ⟨rfl, HB5.out⟩
  · rw [HD3.out hp] at hpm
    obtain rfl : out2 = [⟨damP l x, 4⟩] := List.perm_singleton.1 hpm
    obtain ⟨ad, c5, rfl, d0, d1⟩ := def_at hout
    have b1 : ((bstr (damP l x)).toList == (ByteArray.mk #[]).toList) = false := str_bne (fun e => hp (bstr_inj (k := []) e))
    have b0 : (bstr (damP l x)).toList.isEmpty = false := by
      rw [bstr_toList]; cases hdd : damP l x with
      | nil => exact absurd hdd hp
      | cons _ _ => rfl
    clear hpm hout hp
    generalize damP l x = dp at *
    dsimp only at d0 d1
    go_wp2_with fail
    go_ret
    exact ⟨rfl, HB5.out⟩
end Go.Proofs.YtnnoolemmnailaaDoor
