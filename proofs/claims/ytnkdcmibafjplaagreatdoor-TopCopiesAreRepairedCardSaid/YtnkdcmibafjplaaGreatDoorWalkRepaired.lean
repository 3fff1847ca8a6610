/-
  The law 'TopCopiesAreRepaired' walked: it returns true.
-/
import Derived.Test.YtnkdcmibafjplaaGreatDoorRepairs
import Derived.Test.YtnkdcmibafjplaaGreatDoorAfter
import Derived.Test.YtnkdcmibafjplaaGreatDoorVTop
import Derived.Test.YtnkdcmibafjplaaGreatDoorGInt
import Derived.Test.YtnkdcmibafjplaaGreatDoorOpen
import Derived.Test.YtnkdcmibafjplaaGreatDoorRepaQ
import Derived.Test.YtnkdcmibafjplaaGreatDoorNoneP
import Derived.Test.YtnkdcmibafjplaaGreatDoorAddrAll
import Derived.Deep.RegionHeld
import Derived.Deep.AppendSrc
import Derived.Lib.SlBytesConst
import Derived.Deep.CutRange
import Derived.Test.YtnkdcmibafjplaaGreatDoorRows
import Derived.Stop.LaidErr
import Derived.Lib.LaidTab
import Derived.Lay
import Derived.LaidMore
import Derived.ProofKit
import Derived.OpenShut
import Derived.Stop.Joined
import Derived.SizedLaws
import Derived.Deep.DeepWitnessRowRef
namespace Go.Proofs.YtnkdcmibafjplaaGreatDoor
open Go.RowKit
set_option linter.unusedVariables false
set_option linter.unusedSimpArgs false

theorem opens_bytes : Opens Tryz.prog 33 (Rp.sl Rp.u8) := opens_sl Tryz.underlying33 (by kernel_rfl) (by decide) (of_decide_eq_true (by kernel_rfl)) (opens_u8 Tryz.underlying5)
theorem strV_back (p : ByteArray × List UInt8) : (bstr p.1.data.toList, p.2) = p := by rw [bstr_eq]
theorem opens_file : Opens Tryz.prog 52 fileRp := by
  refine opens_via _ (fun p => ⟨p.1.data.toList, p.2⟩) strV_back ?_
  refine opens_struct Tryz.underlying52 (by kernel_rfl) ?_
  refine opensF_cons (by rfl) (by kernel_rfl) (opens_str Tryz.underlying9) ?_
  exact opensF_one (by rfl) (by kernel_rfl) opens_bytes
theorem opens_files : Opens Tryz.prog 37 (Rp.sl fileRp) := opens_sl Tryz.underlying37 (by kernel_rfl) (by decide) (of_decide_eq_true (by kernel_rfl)) opens_file
/-- A literal row. -/
theorem Rp.lit {α : Type} {R : Rp α} (hsz : 0 < R.sz) {f : α → List Value} (hf : ∀ a, (f a).length = R.sz) (w : World) (e : TypeId) (l : List α) (hl : l.length ≤ maxLen) (hel : ∀ a ∈ l, ∀ S W, R.ok W S (f a) a) :
    (Rp.sl R).ok (w.alloc (.cells (l.flatMap f).toArray e)) (· < (w.alloc (.cells (l.flatMap f).toArray e)).heap.size) [.slice (some ⟨w.heap.size, 0, none⟩) l.length l.length] l := by
  have h := World.ownsRow_lit (base := w.heap.size) (e := e) (size := R.sz) w (l.flatMap f).toArray l.length (Nat.le_refl _) hl (by rw [List.size_toArray]; exact flat_len hf l)
  exact Rp.of_ownN hsz hf h (fun g hg => (h.lt g hg).2) (fun a ha => hel a ha _ _)
def siteC (x : Site) : List Value := [.string (bstr x.name), .int .i64 x.weight, .int .i64 x.room]
theorem siteR_rp : ∀ a ∈ siteR, ∀ S W, siteRp.ok W S (siteC a) a := by
  intro a ha S W
  simp only [siteR, List.mem_cons, List.not_mem_nil, or_false] at ha
  rcases ha with rfl | rfl | rfl <;> exact ⟨[_], [_, _], rfl, ⟨rfl, by decide⟩, [_], [_], rfl, ⟨rfl, by decide⟩, ⟨rfl, by decide⟩⟩
theorem costR_rp : ∀ a ∈ costR, ∀ S W, cstRp.ok W S (cstCells a) a := by
  intro a ha S W
  simp only [costR, List.mem_cons, List.not_mem_nil, or_false] at ha
  rcases ha with rfl | rfl | rfl | rfl | rfl | rfl <;> exact ⟨[_], [_, _], rfl, ⟨rfl, (by show (1 : Nat) ≤ maxLen; decide)⟩, [_], [_], rfl, ⟨rfl, (by show (1 : Nat) ≤ maxLen; decide)⟩, ⟨rfl, by decide⟩⟩
/-- The name of each site. -/
theorem siteR_cell {w : World} {ad : Addr} {n c : Nat} (h : (Rp.sl siteRp).ok w (· < w.heap.size) [.slice (some ad) n c] siteR) {k : Nat} (hk : k < 3) : (ad.add (k * 3)).block < w.heap.size ∧ w.cell? (ad.add (k * 3)) = some (.string (bstr (nmS k))) := by
  obtain ⟨ad', us, e, _, hb, hu, hcell⟩ := Rp.sl_at h (show k < siteR.length from hk)
  cases e
  obtain ⟨rfl, _⟩ := site_open hu
  have c0 := hcell 0 _ rfl
  refine ⟨by rw [add_block]; exact hb, ?_⟩
  have e1 : (siteR[k]'hk).name = nmS k := by
    have : k = 0 ∨ k = 1 ∨ k = 2 := by omega
    rcases this with rfl | rfl | rfl <;> rfl
  rw [← e1]
  exact c0
theorem own_push {α : Type} {w : World} {B : Nat} {e : TypeId} {v : Value} {f : α → List Value} {L : List α} {a : α} (h : w.ownsRow B e 3 v (L.length + 1) (L.flatMap f ++ f a)) : w.ownsRow B e 3 v (L ++ [a]).length ((L ++ [a]).flatMap f) := by
  rw [List.length_append, List.flatMap_append]
  simpa using h
/-- The costs, step by step. -/
def costPre (i k : Nat) : List Cst := costR.take (2 * i + if i < k then k - 1 else k)
theorem costPre_skip {i : Nat} (h : i < 3) : costPre i (i + 1) = costPre i i := by
  have : i = 0 ∨ i = 1 ∨ i = 2 := by omega
  rcases this with rfl | rfl | rfl <;> rfl
theorem costPre_next {i k : Nat} (hi : i < 3) (hk : k < 3) (h : i ≠ k) : costPre i (k + 1) = costPre i k ++ [⟨nmS i, nmS k, (i : Int) + (k : Int)⟩] := by
  have h1 : i = 0 ∨ i = 1 ∨ i = 2 := by omega
  have h2 : k = 0 ∨ k = 1 ∨ k = 2 := by omega
  rcases h1 with rfl | rfl | rfl <;> rcases h2 with rfl | rfl | rfl <;> first | exact absurd rfl h | rfl
theorem costPre_end {i : Nat} (h : i < 3) : costPre i 3 = costPre (i + 1) 0 := by
  have : i = 0 ∨ i = 1 ∨ i = 2 := by omega
  rcases this with rfl | rfl | rfl <;> rfl
theorem costPre_len (i k : Nat) : (costPre i k).length ≤ 6 := by
  unfold costPre
  rw [List.length_take]
  exact Nat.min_le_right _ _
theorem cost_info : (Tryz.prog.info? 49).map (fun i => (i.zero, i.size, i.bytes)) = some (some (.agg #[.string ⟨#[]⟩, .string ⟨#[]⟩, .int .i64 0]), 3, 40) := by kernel_rfl
/-- The copies, step by step. -/
def rowK (d x : Nat → List UInt8) (bad : Nat) (gone : Int) (i k : Nat) : List Held := ((List.range k).filter fun k => decide (¬ (k = bad ∧ (i : Int) = gone))).map (copyR d x bad i)
def copiesK (d x : Nat → List UInt8) (bad : Nat) (gone : Int) (i k : Nat) : List Held := copiesR d x bad gone i ++ rowK d x bad gone i k
theorem heldR_info : (Tryz.prog.info? 54).map (fun i => (i.zero, i.size, i.bytes)) = some (some (.agg #[.string ⟨#[]⟩, .string ⟨#[]⟩, .string ⟨#[]⟩]), 3, 48) := by kernel_rfl
theorem own_belowR {w w' : World} {B : Nat} {e : TypeId} {size n : Nat} {v : Value} {xs : List Value} (h : w.ownsRow B e size v n xs) (hb : Below w.heap.size w w') : w'.ownsRow B e size v n xs :=
  h.kept (row := none) ⟨hb.os, hb.tape, hb.output, hb.size, fun k hk _ => hb.block k hk⟩ (by cases hg : v.ownBlock <;> simp)
theorem own_setR {w : World} {B xb i : Nat} {e : TypeId} {size n : Nat} {v : Value} {xs : List Value} (h : w.ownsRow B e size v n xs) (hx : ∀ g, v.ownBlock = some g → g ≠ xb) (u : Value) : (w.setCell ⟨xb, i, none⟩ u).ownsRow B e size v n xs :=
  h.kept (row := some xb) ⟨rfl, rfl, rfl, by simp [World.setCell], fun k _ hk => Below.heap_setCell _ _ _ _ (fun e => hk (by simp [e]))⟩ (by
    cases hg : v.ownBlock with
    | none => simp
    | some g => exact .inr (fun e => hx g hg (Option.some.inj e)))
theorem enc_item {i j : Nat} (h : i < 20) (hj : 97 + i = j) : IntKind.i32.wrap (j : Int) = (j : Int) ∧ Utf8.encode (j : Int) = bstr [UInt8.ofNat j] ∧ (⟨#[102]⟩ : ByteArray) ++ bstr [UInt8.ofNat j] = bstr (itemR i) := by
  subst hj
  have key : ∀ i, i < 20 → IntKind.i32.wrap ((97 + i : Nat) : Int) = ((97 + i : Nat) : Int) ∧ Utf8.encode ((97 + i : Nat) : Int) = bstr [UInt8.ofNat (97 + i)] ∧ (⟨#[102]⟩ : ByteArray) ++ bstr [UInt8.ofNat (97 + i)] = bstr (itemR i) := by decide
  exact key i h
section
variable {d x : Nat → List UInt8} {bad : Nat} {gone : Int}
theorem copiesK_skip {i k : Nat} (h : k = bad ∧ (i : Int) = gone) : copiesK d x bad gone i (k + 1) = copiesK d x bad gone i k := by
  unfold copiesK rowK
  rw [List.range_succ, List.filter_append, List.filter_cons, decide_eq_false (fun q => q h)]
  simp
theorem copiesK_next {i k : Nat} (h : ¬ (k = bad ∧ (i : Int) = gone)) : copiesK d x bad gone i (k + 1) = copiesK d x bad gone i k ++ [copyR d x bad i k] := by
  unfold copiesK rowK
  rw [List.range_succ, List.filter_append, List.filter_cons, decide_eq_true h, List.map_append, ← List.append_assoc]
  rfl
theorem copiesK_zero (i : Nat) : copiesK d x bad gone i 0 = copiesR d x bad gone i := by
  unfold copiesK rowK
  simp
theorem copiesK_end (i : Nat) : copiesK d x bad gone i 3 = copiesR d x bad gone (i + 1) := by
  unfold copiesK copiesR
  rw [List.range_succ, List.flatMap_append]
  simp only [List.flatMap_cons, List.flatMap_nil, List.append_nil]
  rfl
theorem copiesK_len (i k : Nat) : (copiesK d x bad gone i k).length ≤ 3 * i + k := by
  unfold copiesK rowK
  rw [List.length_append, List.length_map]
  have h1 := copies_len d x bad gone i
  have h2 := List.length_filter_le (fun k => decide (¬ (k = bad ∧ (i : Int) = gone))) (List.range k)
  rw [List.length_range] at h2
  omega
end
set_option maxRecDepth 100000 in
set_option maxHeartbeats 4000000 in
theorem repairedLaw_any (v0 : Value) (l : List FileR) (v1 : Value) (x : Int) (v2 : Value) (y : Int) (w : World) (h0 : (Rp.sl fileRp).ok w (· < w.heap.size) [v0] l) (f0 : (Rp.sl fileRp).fits l)
    (h1 : (Rp.int .i64).ok w (· < w.heap.size) [v1] x) (f1 : (Rp.int .i64).fits x) (h2 : (Rp.int .i64).ok w (· < w.heap.size) [v2] y) (f2 : (Rp.int .i64).fits y) (hG : GInt w) :
    Calls Tryz.prog 4 #[v0, v1, v2] w fun e w' => e = .returned (.bool true) ∧ Below w.heap.size w w' := by
  obtain ⟨e2, hx⟩ := h1
  injection e2 with e2
  subst e2
  obtain ⟨e3, hy⟩ := h2
  injection e3 with e3
  subst e3
  have H0 := Lib.hid h0
  have HG := Lib.hid hG
  have hnm : isNm [112, 97, 99, 107] = true := by decide
  obtain ⟨A0, c0s, rfl, _⟩ := Rp.sl_open h0
  clear f0 f1 f2 h0 hG
  go_enter Tryz.func4, Tryz.ntmps4
  go_wp2_with fail
  refine (packageOf_any [112, 97, 99, 107] _ l w H0.out HG.out (by decide)).mono ?_
  rintro e w1 ⟨v, rfl, hents, hb1⟩
  by_cases hpf : pkFault [112, 97, 99, 107] l = 0
  case neg =>
    rw [show pkEnts [112, 97, 99, 107] l = [] from if_neg hpf] at hents
    rw [show pkName [112, 97, 99, 107] l = [] from if_neg hpf]
    obtain ⟨A, c, rfl, _⟩ := Rp.sl_open hents
    have HAB := Lib.hid (hb1.alloc hb1.size (.cells #[.string (bstr []), .slice A 0 c] 40))
    have HGA := Lib.hid (HG.out.ext HAB.out)
    have hkb := Blk.new w1 40 [.string (bstr []), .slice A 0 c]
    have k0 : _ = some (Value.string (bstr [])) := hkb.cell 0
    have b1 : ((bstr []).toList == (ByteArray.mk #[]).toList) = true := str_beq rfl
    have b0 : (bstr []).toList.isEmpty = true := by rw [bstr_toList]; rfl
    generalize pkFault [112, 97, 99, 107] l = f at *
    clear hents hkb
    have hf1 : (f != 0) = true := by rw [bne_iff_ne]; exact hpf
    have hf2 : (f == 0) = false := by rw [beq_eq_false_iff_ne]; exact hpf
    go_wp2_with fail
    refine (lives_any _ HGA.out).mono ?_
    rintro e w3 ⟨rfl, hb3⟩
    have HB3 := Lib.hid (HAB.out.trans (hb3.mono HAB.out.size))
    clear hb3
    go_wp2_with fail
    go_ret
    exact ⟨rfl, HB3.out⟩
  rw [show pkEnts [112, 97, 99, 107] l = l.map listedOf from if_pos hpf] at hents
  have hff : filesFault l = 0 := by rw [pkFault, if_neg (by rw [hnm]; decide)] at hpf; exact hpf
  have HFF := Lib.hid hff
  rw [show pkName [112, 97, 99, 107] l = [112, 97, 99, 107] from if_pos hpf, hpf]
  have HLE : Hid ((l.map listedOf).length = l.length) := Lib.hid (by simp)
  have HPM := Lib.hid (pack_made hnm hff)
  have HWN := Lib.hid (wrong_none hff)
  have HOK := Lib.hid (files_ok hff)
  generalize hL : l.map listedOf = E at *
  have HEM : Hid (∀ j (h : j < E.length) (h' : j < l.length), E[j] = listedOf l[j]) := Lib.hid (fun j h h' => by simp [← hL])
  clear hL
  obtain ⟨A, c, rfl, _⟩ := Rp.sl_open hents
  have HE := Lib.hid hents
  have HAB := Lib.hid (hb1.alloc hb1.size (.cells #[.string (bstr [112, 97, 99, 107]), .slice A E.length c] 40))
  have hA1 := (Below.refl w1.heap.size w1).alloc (Nat.le_refl _) (.cells #[.string (bstr [112, 97, 99, 107]), .slice A E.length c] 40)
  have HE1 := Lib.hid (Rp.ext _ HE.out hA1)
  have HKB := Lib.hid (Blk.new w1 40 [.string (bstr [112, 97, 99, 107]), .slice A E.length c])
  have HGA := Lib.hid (HG.out.ext HAB.out)
  clear hents hb1 hpf hnm hff hA1
  by_cases hbad : l.length = 0 ∨ 20 < l.length ∨ x < 0 ∨ 2 < x
  case pos =>
    clear HKB HE HE1 HEM HPM HWN HOK
    have hb : (l.length = 0) ∨ (¬ l.length = 0 ∧ 20 < l.length) ∨ (¬ l.length = 0 ∧ ¬ 20 < l.length ∧ x < 0) ∨ (¬ l.length = 0 ∧ ¬ 20 < l.length ∧ ¬ x < 0 ∧ 2 < x) := by omega
    clear hbad
    rcases hb with h | ⟨ha, h⟩ | ⟨ha, hb, h⟩ | ⟨ha, hb, hc, h⟩
    all_goals
      go_wp2_with fail
      refine (lives_any _ HGA.out).mono ?_
      rintro e w3 ⟨rfl, hb3⟩
      have HB3 := Lib.hid (HAB.out.trans (hb3.mono HAB.out.size))
      clear hb3
      go_wp2_with fail
      go_ret
      exact ⟨rfl, HB3.out⟩
  case neg =>
  obtain ⟨g1, g2, g3, g4⟩ : ¬ l.length = 0 ∧ ¬ 20 < l.length ∧ ¬ x < 0 ∧ ¬ 2 < x := by omega
  clear hbad HGA
  obtain ⟨bad, rfl⟩ : ∃ b : Nat, x = b := ⟨x.toNat, by omega⟩
  have hbd : bad < 3 := by omega
  have hls := (Below.refl (w1.alloc (.cells #[.string (bstr [112, 97, 99, 107]), .slice A E.length c] 40)).heap.size (w1.alloc (.cells #[.string (bstr [112, 97, 99, 107]), .slice A E.length c] 40))).alloc (Nat.le_refl _) (.cells #[.string ⟨#[97]⟩, .int .i64 1, .int .i64 100, .string ⟨#[98]⟩, .int .i64 1, .int .i64 100, .string ⟨#[99]⟩, .int .i64 1, .int .i64 100] 44)
  have HSI : Hid ((Rp.sl siteRp).ok ((w1.alloc (.cells #[.string (bstr [112, 97, 99, 107]), .slice A E.length c] 40)).alloc (.cells #[.string ⟨#[97]⟩, .int .i64 1, .int .i64 100, .string ⟨#[98]⟩, .int .i64 1, .int .i64 100, .string ⟨#[99]⟩, .int .i64 1, .int .i64 100] 44)) (· < ((w1.alloc (.cells #[.string (bstr [112, 97, 99, 107]), .slice A E.length c] 40)).alloc (.cells #[.string ⟨#[97]⟩, .int .i64 1, .int .i64 100, .string ⟨#[98]⟩, .int .i64 1, .int .i64 100, .string ⟨#[99]⟩, .int .i64 1, .int .i64 100] 44)).heap.size) [.slice (some ⟨(w1.alloc (.cells #[.string (bstr [112, 97, 99, 107]), .slice A E.length c] 40)).heap.size, 0, none⟩) 3 3] siteR) := Lib.hid (Rp.lit (R := siteRp) (f := siteC) (by decide) (fun _ => rfl) (w1.alloc (.cells #[.string (bstr [112, 97, 99, 107]), .slice A E.length c] 40)) 44 siteR (by decide) siteR_rp)
  have HB6 := Lib.hid (ext_trans HAB.out hls)
  have HE6 := Lib.hid (Rp.ext _ HE1.out hls)
  have HK6 := Lib.hid (HKB.out.alloc_o (.cells #[.string ⟨#[97]⟩, .int .i64 1, .int .i64 100, .string ⟨#[98]⟩, .int .i64 1, .int .i64 100, .string ⟨#[99]⟩, .int .i64 1, .int .i64 100] 44))
  have hz6 : (w1.alloc (.cells #[.string (bstr [112, 97, 99, 107]), .slice A E.length c] 40)).heap.size = w1.heap.size + 1 := by simp
  rw [hz6] at HSI
  have HX := Lib.hid hx
  have e1 : ((l.length : Int) == 0) = false := by rw [beq_eq_false_iff_ne]; omega
  have e2 : decide ((20 : Int) < (l.length : Int)) = false := decide_eq_false (by omega)
  have e3 : decide ((bad : Int) < 0) = false := decide_eq_false (by omega)
  have e4 : decide ((2 : Int) < (bad : Int)) = false := decide_eq_false (by omega)
  clear hls hz6 HE HAB HE1 HKB hx
  go_wp2_with fail
  clear e1 e2 e3 e4
  generalize (w1.alloc (.cells #[.string (bstr [112, 97, 99, 107]), .slice A E.length c] 40)).alloc (.cells #[.string ⟨#[97]⟩, .int .i64 1, .int .i64 100, .string ⟨#[98]⟩, .int .i64 1, .int .i64 100, .string ⟨#[99]⟩, .int .i64 1, .int .i64 100] 44) = w6 at *
  obtain ⟨sa, hsa⟩ : ∃ sa : Addr, sa = ⟨w1.heap.size + 1, 0, none⟩ := ⟨_, rfl⟩
  rw [← hsa] at HSI ⊢
  clear hsa
  generalize w1.heap.size = pb at *
  have HC6 : Hid (∀ k, k < 3 → (sa.add (k * 3)).block < w6.heap.size ∧ w6.cell? (sa.add (k * 3)) = some (.string (bstr (nmS k)))) := Lib.hid (fun k hk => siteR_cell HSI.out hk)
  go_loopw [10, 12] (fun vc vi wr => ∃ (i : Nat) (v : Value), i ≤ 3 ∧ v = vc ∧ vi = .int .i64 i ∧ Hid (Below w6.heap.size w6 wr) ∧ Hid (wr.ownsRow w6.heap.size 49 3 v (costPre i 0).length ((costPre i 0).flatMap cstCells))) (fun _ vi _ => 3 - (intOf vi).toNat)
  case atStart => exact ⟨0, _, by omega, rfl, rfl, Below.refl _ _, Lib.hid (World.ownsRow_nil w6 w6.heap.size 49 3)⟩
  case round =>
    obtain ⟨i, vc0, hi, rfl, rfl, HB1, HO1⟩ := hrel
    by_cases hi3 : i < 3
    · have hi3c : (i : Int) < 3 := by omega
      go_wp2_with fail
      go_loopw [10, 13] (fun vc vk wr => ∃ (k : Nat) (v : Value), k ≤ 3 ∧ v = vc ∧ vk = .int .i64 k ∧ Hid (Below w6.heap.size w6 wr) ∧ Hid (wr.ownsRow w6.heap.size 49 3 v (costPre i k).length ((costPre i k).flatMap cstCells))) (fun _ vk _ => 3 - (intOf vk).toNat)
      case atStart => exact ⟨0, _, by omega, rfl, rfl, HB1, HO1⟩
      case round =>
        clear HB1 HO1
        obtain ⟨k, vc, hk, rfl, rfl, HB2, HO2⟩ := hrel
        by_cases hk3 : k < 3
        · have hk3c : (k : Int) < 3 := by omega
          by_cases hne : i = k
          · subst hne
            have hne' : ((i : Int) != (i : Int)) = false := by simp
            go_wp2_with fail
            go_roundw
            case rel => exact ⟨i + 1, _, by omega, rfl, by go_num, HB2, Lib.hid (by rw [costPre_skip hi3]; exact HO2.out)⟩
            case measure => simp [intOf]; omega
          · have hne' : ((i : Int) != (k : Int)) = true := by rw [bne_iff_ne]; omega
            have ci := HC6.out i hi3
            have ck := HC6.out k hk3
            have hcl := costPre_len i k
            have hwr : IntKind.i64.wrap ((i : Int) + (k : Int)) = (i : Int) + (k : Int) := IntWalk.i64_in _ (by omega)
            obtain ⟨Av, cv, rfl, _⟩ := own_form HO2.out
            go_wp2_with fail
            refine wp_region_held_drew (S := fun w' => Below w6.heap.size w6 w') (by kernel_rfl) (Below.drew HB2.out) (fun hHeld0 => ?_)
            obtain ⟨wq, hwq⟩ : ∃ wq, wq = World.drew wr := ⟨_, rfl⟩
            have HBQ : Hid (Below w6.heap.size w6 wq) := Lib.hid (by rw [hwq]; exact Below.drew HB2.out)
            have HOQ : Hid (wq.ownsRow w6.heap.size 49 3 (.slice Av (costPre i k).length cv) (costPre i k).length ((costPre i k).flatMap cstCells)) := Lib.hid (by rw [hwq]; exact own_drewN HO2.out 1)
            rw [← hwq] at hHeld0 ⊢
            clear hHeld0 hwq
            have hHeld : Below w6.heap.size w6 wq := HBQ.out
            refine wpAnyH_take (i := 0) (v := ?_) rfl (by kernel_rfl) (by kernel_rfl) (by kernel_rfl) (fun _ _ _ h => h) (Or.inl ⟨by rfl, ?_⟩) (by assumption) ?_
            rotate_left
            · (intro w hSw; go_simp; try with_reducible rfl)
            try simp only [List.getElem_toArray, List.getElem_cons_succ, List.getElem_cons_zero, Act.put, List.setIfInBounds_toArray, List.set_cons_zero, List.set_cons_succ]
            refine wpAnyH_take (i := 1) (v := ?_) rfl (by kernel_rfl) (by kernel_rfl) (by kernel_rfl) (fun _ _ _ h => h) (Or.inl ⟨by rfl, ?_⟩) (by assumption) ?_
            rotate_left
            · (intro w hSw; go_simp; try with_reducible rfl)
            try simp only [List.getElem_toArray, List.getElem_cons_succ, List.getElem_cons_zero, Act.put, List.setIfInBounds_toArray, List.set_cons_zero, List.set_cons_succ]
            refine wpAnyH_take (i := 2) (v := ?_) rfl (by kernel_rfl) (by kernel_rfl) (by kernel_rfl) (fun _ _ _ h => h) (Or.inl ⟨by rfl, ?_⟩) (by assumption) ?_
            rotate_left
            · (intro w hSw; go_simp; try with_reducible rfl)
            try simp only [List.getElem_toArray, List.getElem_cons_succ, List.getElem_cons_zero, Act.put, List.setIfInBounds_toArray, List.set_cons_zero, List.set_cons_succ]
            refine wpAnyH_take (i := 3) (v := ?_) rfl (by kernel_rfl) (by kernel_rfl) (by kernel_rfl) (fun _ _ _ h => h) (Or.inl ⟨by rfl, ?_⟩) (by assumption) ?_
            rotate_left
            · (intro w hSw; go_simp; (try rw [if_pos (by omega)]); (try rw [Int.toNat_natCast]); try with_reducible rfl)
            try simp only [List.getElem_toArray, List.getElem_cons_succ, List.getElem_cons_zero, Act.put, List.setIfInBounds_toArray, List.set_cons_zero, List.set_cons_succ]
            refine wpAnyH_take (i := 4) (v := ?_) rfl (by kernel_rfl) (by kernel_rfl) (by kernel_rfl) (fun _ _ _ h => h) (Or.inl ⟨by rfl, ?_⟩) (by assumption) ?_
            rotate_left
            · (intro w hSw; go_simp; try with_reducible rfl)
            try simp only [List.getElem_toArray, List.getElem_cons_succ, List.getElem_cons_zero, Act.put, List.setIfInBounds_toArray, List.set_cons_zero, List.set_cons_succ]
            refine wpAnyH_take (i := 5) (v := ?_) rfl (by kernel_rfl) (by kernel_rfl) (by kernel_rfl) (fun _ _ _ h => h) (Or.inl ⟨by rfl, ?_⟩) (by assumption) ?_
            rotate_left
            · (intro w hSw; have q0 := (hSw.cell (p := sa.add (i * 3)) ci.1).trans ci.2; go_simp; try with_reducible rfl)
            try simp only [List.getElem_toArray, List.getElem_cons_succ, List.getElem_cons_zero, Act.put, List.setIfInBounds_toArray, List.set_cons_zero, List.set_cons_succ]
            refine wpAnyH_take (i := 6) (v := ?_) rfl (by kernel_rfl) (by kernel_rfl) (by kernel_rfl) (fun _ _ _ h => h) (Or.inl ⟨by rfl, ?_⟩) (by assumption) ?_
            rotate_left
            · (intro w hSw; go_simp; try with_reducible rfl)
            try simp only [List.getElem_toArray, List.getElem_cons_succ, List.getElem_cons_zero, Act.put, List.setIfInBounds_toArray, List.set_cons_zero, List.set_cons_succ]
            refine wpAnyH_take (i := 7) (v := ?_) rfl (by kernel_rfl) (by kernel_rfl) (by kernel_rfl) (fun _ _ _ h => h) (Or.inl ⟨by rfl, ?_⟩) (by assumption) ?_
            rotate_left
            · (intro w hSw; go_simp; try with_reducible rfl)
            try simp only [List.getElem_toArray, List.getElem_cons_succ, List.getElem_cons_zero, Act.put, List.setIfInBounds_toArray, List.set_cons_zero, List.set_cons_succ]
            refine wpAnyH_take (i := 8) (v := ?_) rfl (by kernel_rfl) (by kernel_rfl) (by kernel_rfl) (fun _ _ _ h => h) (Or.inl ⟨by rfl, ?_⟩) (by assumption) ?_
            rotate_left
            · (intro w hSw; go_simp; (try rw [if_pos (by omega)]); (try rw [Int.toNat_natCast]); try with_reducible rfl)
            try simp only [List.getElem_toArray, List.getElem_cons_succ, List.getElem_cons_zero, Act.put, List.setIfInBounds_toArray, List.set_cons_zero, List.set_cons_succ]
            refine wpAnyH_take (i := 9) (v := ?_) rfl (by kernel_rfl) (by kernel_rfl) (by kernel_rfl) (fun _ _ _ h => h) (Or.inl ⟨by rfl, ?_⟩) (by assumption) ?_
            rotate_left
            · (intro w hSw; go_simp; try with_reducible rfl)
            try simp only [List.getElem_toArray, List.getElem_cons_succ, List.getElem_cons_zero, Act.put, List.setIfInBounds_toArray, List.set_cons_zero, List.set_cons_succ]
            refine wpAnyH_take (i := 10) (v := ?_) rfl (by kernel_rfl) (by kernel_rfl) (by kernel_rfl) (fun _ _ _ h => h) (Or.inl ⟨by rfl, ?_⟩) (by assumption) ?_
            rotate_left
            · (intro w hSw; have q0 := (hSw.cell (p := sa.add (k * 3)) ck.1).trans ck.2; go_simp; try with_reducible rfl)
            try simp only [List.getElem_toArray, List.getElem_cons_succ, List.getElem_cons_zero, Act.put, List.setIfInBounds_toArray, List.set_cons_zero, List.set_cons_succ]
            refine wpAnyH_take (i := 11) (v := ?_) rfl (by kernel_rfl) (by kernel_rfl) (by kernel_rfl) (fun _ _ _ h => h) (Or.inl ⟨by rfl, ?_⟩) (by assumption) ?_
            rotate_left
            · (intro w hSw; go_simp; try with_reducible rfl)
            try simp only [List.getElem_toArray, List.getElem_cons_succ, List.getElem_cons_zero, Act.put, List.setIfInBounds_toArray, List.set_cons_zero, List.set_cons_succ]
            refine wpAnyH_take (i := 12) (v := ?_) rfl (by kernel_rfl) (by kernel_rfl) (by kernel_rfl) (fun _ _ _ h => h) (Or.inl ⟨by rfl, ?_⟩) (by assumption) ?_
            rotate_left
            · (intro w hSw; go_simp; try with_reducible rfl)
            try simp only [List.getElem_toArray, List.getElem_cons_succ, List.getElem_cons_zero, Act.put, List.setIfInBounds_toArray, List.set_cons_zero, List.set_cons_succ]
            refine wpAnyH_take (i := 13) (v := ?_) rfl (by kernel_rfl) (by kernel_rfl) (by kernel_rfl) (fun _ _ _ h => h) (Or.inl ⟨by rfl, ?_⟩) (by assumption) ?_
            rotate_left
            · (intro w hSw; go_simp; (try rw [hwr]); try with_reducible rfl)
            try simp only [List.getElem_toArray, List.getElem_cons_succ, List.getElem_cons_zero, Act.put, List.setIfInBounds_toArray, List.set_cons_zero, List.set_cons_succ]
            refine wpAnyH_take (i := 14) (v := ?_) rfl (by kernel_rfl) (by kernel_rfl) (by kernel_rfl) (fun _ _ _ h => h) (Or.inl ⟨by rfl, ?_⟩) (by assumption) ?_
            rotate_left
            · (intro w hSw; go_simp; try with_reducible rfl)
            try simp only [List.getElem_toArray, List.getElem_cons_succ, List.getElem_cons_zero, Act.put, List.setIfInBounds_toArray, List.set_cons_zero, List.set_cons_succ]
            refine wpAnyH_ready (rs := [15]) (by kernel_rfl) (by simp) ?_
            refine AllReadyH.cons rfl (fun K hK => ?_) AllReadyH.nil
            rw [if_pos (by rfl)]
            simp only [List.getElem_toArray, List.getElem_cons_succ, List.getElem_cons_zero]
            go_simp
            refine hK.out _ _ (HBQ.out.alloc HBQ.out.size _) (fun hHeld => ?_)
            clear hK K
            try simp only [List.getElem_toArray, List.getElem_cons_succ, List.getElem_cons_zero, Act.put, List.setIfInBounds_toArray, List.set_cons_zero, List.set_cons_succ]
            refine wpAnyH_ready (rs := [16]) (by kernel_rfl) (by simp) ?_
            refine AllReadyH.cons rfl (fun K hK => ?_) AllReadyH.nil
            refine step_app_new (w := wq) (by rfl) (.tmp 74) (.tmp 89) 46 (by rfl) 49 _ 3 40 Tryz.underlying46 cost_info rfl (by decide) (cstCells ⟨nmS i, nmS k, (i : Int) + (k : Int)⟩) 0 rfl HOQ.out HBQ.out.size rfl rfl rfl (by decide) (by simp [cstCells, Value.oneCell']) (by unfold maxLen; omega) (by omega) ?_
            intro g1 cc1 w9 HO9 HG9 HB9 HL9
            refine hK.out _ _ (HB9.out _ HBQ.out) (fun hHeld => ?_)
            clear hK K
            try simp only [List.getElem_toArray, List.getElem_cons_succ, List.getElem_cons_zero, Act.put, List.setIfInBounds_toArray, List.set_cons_zero, List.set_cons_succ]
            refine wpAnyH_take (i := 17) (v := ?_) rfl (by kernel_rfl) (by kernel_rfl) (by kernel_rfl) (fun _ _ _ h => h) (Or.inl ⟨by rfl, ?_⟩) (by assumption) ?_
            rotate_left
            · (intro w hSw; go_simp; try with_reducible rfl)
            try simp only [List.getElem_toArray, List.getElem_cons_succ, List.getElem_cons_zero, Act.put, List.setIfInBounds_toArray, List.set_cons_zero, List.set_cons_succ]
            refine wpAnyH_done (by kernel_rfl) ?_ _
            clear hHeld
            have HO10 := own_push HO9.out
            rw [← costPre_next hi3 hk3 hne] at HO10
            have HO10 := Lib.hid HO10
            have HB10 := Lib.hid (HB9.out _ HBQ.out)
            clear HO9 HG9 HB9 HL9 HBQ HOQ ci ck hwr
            go_wp2_with fail
            go_roundw
            case rel => exact ⟨k + 1, _, by omega, rfl, by go_num, HB10, HO10⟩
            case measure => simp [intOf]; omega
        · obtain rfl : k = 3 := by omega
          rw [costPre_end hi3] at HO2
          go_wp2_with fail
          go_roundw
          case rel => exact ⟨i + 1, _, by omega, rfl, by go_num, HB2, HO2⟩
          case measure => simp [intOf]; omega
    · obtain rfl : i = 3 := by omega
      rw [show (((3 : Nat) : Int)) = 3 from rfl]
      have HCO : Hid ((Rp.sl cstRp).ok wr (· < wr.heap.size) [vc0] costR) := Lib.hid (Rp.of_ownN (by decide) (fun _ => rfl) HO1.out (fun g hg => (HO1.out.lt g hg).2) (fun a ha => costR_rp a ha _ _))
      rename World => w7
      have HB7 := Lib.hid (ext_trans HB6.out HB1.out)
      have H7 := Lib.hid (Rp.ext _ H0.out HB7.out)
      have HSI7 := Lib.hid (Rp.ext _ HSI.out HB1.out)
      have HE7 := Lib.hid (Rp.ext _ HE6.out HB1.out)
      have HK7 := Lib.hid (HK6.out.same (same_below HB1.out) HK6.out.lt)
      have HC7 : Hid (∀ k, k < 3 → (sa.add (k * 3)).block < w7.heap.size ∧ w7.cell? (sa.add (k * 3)) = some (.string (bstr (nmS k)))) := Lib.hid (fun k hk => ⟨Nat.lt_of_lt_of_le (HC6.out k hk).1 HB1.out.size, (HB1.out.cell (p := sa.add (k * 3)) (HC6.out k hk).1).trans (HC6.out k hk).2⟩)
      have HGA := Lib.hid (HG.out.ext HB7.out)
      clear HB6 H0 HSI HE6 HK6 HC6 HG HO1 HB1 hi hi3
      obtain ⟨F, hF⟩ : ∃ F : Nat → List UInt8, F = fun j => (l.map (·.bytes)).getD j [] := ⟨_, rfl⟩
      have HF : Hid (∀ j (h : j < l.length), F j = l[j].bytes) := Lib.hid (fun j h => by rw [hF]; simp [List.getD_eq_getElem?_getD, h])
      clear hF
      obtain ⟨d, hd⟩ : ∃ d : Nat → List UInt8, d = fun j => digL (F j) := ⟨_, rfl⟩
      obtain ⟨x, hx⟩ : ∃ x : Nat → List UInt8, x = fun j => digL (120 :: F j) := ⟨_, rfl⟩
      have HD : Hid (∀ j, d j = digL (F j)) := Lib.hid (fun j => by rw [hd])
      have HX2 : Hid (∀ j, x j = digL (120 :: F j)) := Lib.hid (fun j => by rw [hx])
      clear hd hx
      go_wp2_with fail
      go_loopw [11, 14] (fun vc vi wr => ∃ (i : Nat) (v : Value), i ≤ l.length ∧ v = vc ∧ vi = .int .i64 i ∧ Hid (Below w7.heap.size w7 wr) ∧ Hid (wr.ownsRow w7.heap.size 54 3 v (copiesK d x bad y i 0).length ((copiesK d x bad y i 0).flatMap heldCells))) (fun _ vi _ => l.length - (intOf vi).toNat)
      case atStart => exact ⟨0, _, by omega, rfl, rfl, Below.refl _ _, Lib.hid (World.ownsRow_nil _ _ _ _)⟩
      case round =>
        obtain ⟨i, vc1, hi, rfl, rfl, HB1, HO1⟩ := hrel
        by_cases hil : i < l.length
        · have hilc : (i : Int) < (l.length : Int) := by omega
          obtain ⟨j, hj⟩ : ∃ j, 97 + i = j := ⟨_, rfl⟩
          have hj1 : IntKind.i64.wrap ((97 : Int) + (i : Int)) = (j : Int) := by rw [IntWalk.i64_in _ (by omega)]; omega
          have hj2 : IntKind.i32.wrap (j : Int) = (j : Int) := (enc_item (by omega) hj).1
          have hj3 : Utf8.encode (j : Int) = bstr [UInt8.ofNat j] := (enc_item (by omega) hj).2.1
          have hj4 : (⟨#[102]⟩ : ByteArray) ++ bstr [UInt8.ofNat j] = bstr (itemR i) := (enc_item (by omega) hj).2.2
          have hj5 : ¬ 9223372036854775807 < (ByteArray.mk #[102]).size + (bstr [UInt8.ofNat j]).size := by show ¬ 9223372036854775807 < 1 + 1; omega
          have hj6 : ¬ 9223372036854775807 < 1 + (bstr [UInt8.ofNat j]).size := by show ¬ 9223372036854775807 < 1 + 1; omega
          clear hj
          go_wp2_with fail
          clear hj1 hj2 hj3 hj4 hj5 hj6
          go_loopw [11, 16] (fun vc vk wr => ∃ (k : Nat) (v : Value), k ≤ 3 ∧ v = vc ∧ vk = .int .i64 k ∧ Hid (Below w7.heap.size w7 wr) ∧ Hid (wr.ownsRow w7.heap.size 54 3 v (copiesK d x bad y i k).length ((copiesK d x bad y i k).flatMap heldCells))) (fun _ vk _ => 3 - (intOf vk).toNat)
          case atStart => exact ⟨0, _, by omega, rfl, rfl, HB1, HO1⟩
          case round =>
            clear HB1 HO1
            obtain ⟨k, vc, hk, rfl, rfl, HB2, HO2⟩ := hrel
            by_cases hk3 : k < 3
            · have hk3c : (k : Int) < 3 := by omega
              have hwr := HB2.out.size
              obtain ⟨ad, cf, v1, e1, hadb, f0, f1, _, hfb⟩ := file_at (Rp.ext _ H7.out HB2.out) hil
              cases e1
              have hadf : (ad.add (i * 2)).block < wr.heap.size := by rw [add_block]; exact hadb
              have ck : (sa.add (k * 3)).block < wr.heap.size ∧ wr.cell? (sa.add (k * 3)) = some (.string (bstr (nmS k))) := ⟨Nat.lt_of_lt_of_le (HC7.out k hk3).1 hwr, (HB2.out.cell (p := sa.add (k * 3)) (HC7.out k hk3).1).trans (HC7.out k hk3).2⟩
              rw [← HF.out i hil] at hfb
              have HFB := Lib.hid hfb
              obtain ⟨A1, c1, rfl, hbl, hbc, _⟩ := Rp.sl_open hfb
              have hln : (F i).length ≤ 100000 := by rw [HF.out i hil]; exact (HOK.out.2 i hil).2.1
              unfold maxLen at hbc
              clear hfb f0 hadb
              go_wp2_with fail
              refine wp_region_held_drew (S := fun w' => Below wr.heap.size wr w') (by kernel_rfl) (Below.drew (Below.refl _ _)) (fun hHeld0 => ?_)
              obtain ⟨wq, hwq⟩ : ∃ wq, wq = World.drew wr := ⟨_, rfl⟩
              have HBQ : Hid (Below wr.heap.size wr wq) := Lib.hid (by rw [hwq]; exact Below.drew (Below.refl _ _))
              rw [← hwq] at hHeld0 ⊢
              clear hHeld0 hwq
              have hHeld : Below wr.heap.size wr wq := HBQ.out
              refine wpAnyH_take (i := 0) (v := ?_) rfl (by kernel_rfl) (by kernel_rfl) (by kernel_rfl) (fun _ _ _ h => h) (Or.inl ⟨by rfl, ?_⟩) (by assumption) ?_
              rotate_left
              · (intro w hSw; go_simp; try with_reducible rfl)
              try simp only [List.getElem_toArray, List.getElem_cons_succ, List.getElem_cons_zero, Act.put, List.setIfInBounds_toArray, List.set_cons_zero, List.set_cons_succ]
              refine wpAnyH_take (i := 1) (v := ?_) rfl (by kernel_rfl) (by kernel_rfl) (by kernel_rfl) (fun _ _ _ h => h) (Or.inl ⟨by rfl, ?_⟩) (by assumption) ?_
              rotate_left
              · (intro w hSw; go_simp; try with_reducible rfl)
              try simp only [List.getElem_toArray, List.getElem_cons_succ, List.getElem_cons_zero, Act.put, List.setIfInBounds_toArray, List.set_cons_zero, List.set_cons_succ]
              refine wpAnyH_take (i := 2) (v := ?_) rfl (by kernel_rfl) (by kernel_rfl) (by kernel_rfl) (fun _ _ _ h => h) (Or.inl ⟨by rfl, ?_⟩) (by assumption) ?_
              rotate_left
              · (intro w hSw; go_simp; try with_reducible rfl)
              try simp only [List.getElem_toArray, List.getElem_cons_succ, List.getElem_cons_zero, Act.put, List.setIfInBounds_toArray, List.set_cons_zero, List.set_cons_succ]
              refine wpAnyH_take (i := 3) (v := ?_) rfl (by kernel_rfl) (by kernel_rfl) (by kernel_rfl) (fun _ _ _ h => h) (Or.inl ⟨by rfl, ?_⟩) (by assumption) ?_
              rotate_left
              · (intro w hSw; go_simp; (try rw [if_pos (by omega)]); (try rw [Int.toNat_natCast]); try with_reducible rfl)
              try simp only [List.getElem_toArray, List.getElem_cons_succ, List.getElem_cons_zero, Act.put, List.setIfInBounds_toArray, List.set_cons_zero, List.set_cons_succ]
              refine wpAnyH_take (i := 4) (v := ?_) rfl (by kernel_rfl) (by kernel_rfl) (by kernel_rfl) (fun _ _ _ h => h) (Or.inl ⟨by rfl, ?_⟩) (by assumption) ?_
              rotate_left
              · (intro w hSw; go_simp; try with_reducible rfl)
              try simp only [List.getElem_toArray, List.getElem_cons_succ, List.getElem_cons_zero, Act.put, List.setIfInBounds_toArray, List.set_cons_zero, List.set_cons_succ]
              refine wpAnyH_take (i := 5) (v := ?_) rfl (by kernel_rfl) (by kernel_rfl) (by kernel_rfl) (fun _ _ _ h => h) (Or.inl ⟨by rfl, ?_⟩) (by assumption) ?_
              rotate_left
              · (intro w hSw; have q0 := (hSw.cell (p := sa.add (k * 3)) ck.1).trans ck.2; go_simp; try with_reducible rfl)
              try simp only [List.getElem_toArray, List.getElem_cons_succ, List.getElem_cons_zero, Act.put, List.setIfInBounds_toArray, List.set_cons_zero, List.set_cons_succ]
              refine wpAnyH_take (i := 6) (v := ?_) rfl (by kernel_rfl) (by kernel_rfl) (by kernel_rfl) (fun _ _ _ h => h) (Or.inl ⟨by rfl, ?_⟩) (by assumption) ?_
              rotate_left
              · (intro w hSw; go_simp; try with_reducible rfl)
              try simp only [List.getElem_toArray, List.getElem_cons_succ, List.getElem_cons_zero, Act.put, List.setIfInBounds_toArray, List.set_cons_zero, List.set_cons_succ]
              refine wpAnyH_take (i := 7) (v := ?_) rfl (by kernel_rfl) (by kernel_rfl) (by kernel_rfl) (fun _ _ _ h => h) (Or.inl ⟨by rfl, ?_⟩) (by assumption) ?_
              rotate_left
              · (intro w hSw; go_simp; try with_reducible rfl)
              try simp only [List.getElem_toArray, List.getElem_cons_succ, List.getElem_cons_zero, Act.put, List.setIfInBounds_toArray, List.set_cons_zero, List.set_cons_succ]
              refine wpAnyH_take (i := 8) (v := ?_) rfl (by kernel_rfl) (by kernel_rfl) (by kernel_rfl) (fun _ _ _ h => h) (Or.inl ⟨by rfl, ?_⟩) (by assumption) ?_
              rotate_left
              · (intro w hSw; go_simp; (try rw [if_pos (by omega)]); (try rw [Int.toNat_natCast]); try with_reducible rfl)
              try simp only [List.getElem_toArray, List.getElem_cons_succ, List.getElem_cons_zero, Act.put, List.setIfInBounds_toArray, List.set_cons_zero, List.set_cons_succ]
              refine wpAnyH_take (i := 9) (v := ?_) rfl (by kernel_rfl) (by kernel_rfl) (by kernel_rfl) (fun _ _ _ h => h) (Or.inl ⟨by rfl, ?_⟩) (by assumption) ?_
              rotate_left
              · (intro w hSw; go_simp; try with_reducible rfl)
              try simp only [List.getElem_toArray, List.getElem_cons_succ, List.getElem_cons_zero, Act.put, List.setIfInBounds_toArray, List.set_cons_zero, List.set_cons_succ]
              refine wpAnyH_take (i := 10) (v := ?_) rfl (by kernel_rfl) (by kernel_rfl) (by kernel_rfl) (fun _ _ _ h => h) (Or.inl ⟨by rfl, ?_⟩) (by assumption) ?_
              rotate_left
              · (intro w hSw; have q0 := (hSw.cell (p := ⟨(ad.add (i * 2)).block, (ad.add (i * 2)).off + 1, none⟩) hadf).trans f1; go_simp; try with_reducible rfl)
              try simp only [List.getElem_toArray, List.getElem_cons_succ, List.getElem_cons_zero, Act.put, List.setIfInBounds_toArray, List.set_cons_zero, List.set_cons_succ]
              refine wpAnyH_ready (rs := [11, 13]) (by kernel_rfl) (by simp) ?_
              refine AllReadyH.cons rfl (fun K hK => ?_) (AllReadyH.cons rfl (fun K hK => ?_) AllReadyH.nil)
              · rw [if_pos (by rfl)]
                simp only [List.getElem_toArray, List.getElem_cons_succ, List.getElem_cons_zero]
                go_simp
                go_at_call 11
                refine (digest_any _ _ wq _ (Rp.ext _ HFB.out HBQ.out)).mono ?_
                rintro e wd ⟨rfl, hb⟩
                have HBD := Lib.hid (ext_trans HBQ.out hb)
                have hbd := HBD.out
                show K _ wd
                refine hK.out _ _ hbd (fun hHeld => ?_)
                clear hK K hb hbd
                try simp only [List.getElem_toArray, List.getElem_cons_succ, List.getElem_cons_zero, Act.put, List.setIfInBounds_toArray, List.set_cons_zero, List.set_cons_succ]
                refine wpAnyH_take (i := 12) (v := ?_) rfl (by kernel_rfl) (by kernel_rfl) (by kernel_rfl) (fun _ _ _ h => h) (Or.inl ⟨by rfl, ?_⟩) (by assumption) ?_
                rotate_left
                · (intro w hSw; go_simp; try with_reducible rfl)
                try simp only [List.getElem_toArray, List.getElem_cons_succ, List.getElem_cons_zero, Act.put, List.setIfInBounds_toArray, List.set_cons_zero, List.set_cons_succ]
                have hkn := Blk.new wd 54 [.string ⟨#[]⟩, .string ⟨#[]⟩, .string ⟨#[]⟩]
                have hg3 : Below wr.heap.size wr (wd.alloc (.cells #[.string ⟨#[]⟩, .string ⟨#[]⟩, .string ⟨#[]⟩] 54)) := HBD.out.alloc HBD.out.size _
                refine wpAnyH_ready (rs := [13]) (by kernel_rfl) (by simp) ?_
                refine AllReadyH.cons rfl (fun K hK => ?_) AllReadyH.nil
                rw [if_pos (by rfl)]
                simp only [List.getElem_toArray, List.getElem_cons_succ, List.getElem_cons_zero]
                go_simp
                refine hK.out _ _ hg3 (fun hHeld => ?_)
                clear hK K
                try simp only [List.getElem_toArray, List.getElem_cons_succ, List.getElem_cons_zero, Act.put, List.setIfInBounds_toArray, List.set_cons_zero, List.set_cons_succ]
                have n0 := hkn.cell 0
                have n1 := hkn.cell 1
                have n2 := hkn.cell 2
                have z0 := hkn.frozen 0
                have z1 := hkn.frozen 1
                have z2 := hkn.frozen 2
                clear hkn hg3
                refine wpAnyH_ready (rs := [14]) (by kernel_rfl) (by simp) ?_
                refine AllReadyH.cons rfl (fun K hK => ?_) AllReadyH.nil
                rw [if_pos (by rfl)]
                simp only [List.getElem_toArray, List.getElem_cons_succ, List.getElem_cons_zero]
                go_simp
                refine hK.out _ _ (HBD.out.alloc HBD.out.size _) (fun hHeld => ?_)
                clear hK K
                try simp only [List.getElem_toArray, List.getElem_cons_succ, List.getElem_cons_zero, Act.put, List.setIfInBounds_toArray, List.set_cons_zero, List.set_cons_succ]
                refine wpAnyH_done (by kernel_rfl) ?_ _
                clear hHeld n0 n1 n2 z0 z1 z2
                have HXE : Hid (Blk (wd.alloc (.cells #[.string (bstr (itemR i)), .string (bstr (nmS k)), .string (bstr (hexL (fnv (F i)) 16))] 54)) wd.heap.size 54 [.string (bstr (itemR i)), .string (bstr (nmS k)), .string (bstr (hexL (fnv (F i)) 16))]) := Lib.hid (Blk.new wd _ _)
                have HBE0 := Lib.hid (HBD.out.alloc HBD.out.size (.cells #[.string (bstr (itemR i)), .string (bstr (nmS k)), .string (bstr (hexL (fnv (F i)) 16))] 54))
                have HXG : Hid (wr.heap.size ≤ wd.heap.size) := Lib.hid HBD.out.size
                obtain ⟨xb, hxb⟩ : ∃ xb, wd.heap.size = xb := ⟨_, rfl⟩
                rw [hxb] at HXE HXG ⊢
                clear hxb HBD HBQ
                generalize wd.alloc (.cells #[.string (bstr (itemR i)), .string (bstr (nmS k)), .string (bstr (hexL (fnv (F i)) 16))] 54) = wE at *
                have hdi : hexL (fnv (F i)) 16 = d i := (HD.out i).symm
                rw [hdi] at HXE ⊢
                have HBE := Lib.hid (HB2.out.trans (HBE0.out.mono hwr))
                have HOE := Lib.hid (own_belowR HO2.out HBE0.out)
                have HXN : Hid (∀ g, vc.ownBlock = some g → g ≠ xb) := Lib.hid (fun g hg => Nat.ne_of_lt (Nat.lt_of_lt_of_le (HO2.out.lt g hg).2 HXG.out))
                have HXW : Hid (w7.heap.size ≤ xb) := Lib.hid (Nat.le_trans hwr HXG.out)
                have HF1 : Hid (wE.cell? ⟨(ad.add (i * 2)).block, (ad.add (i * 2)).off + 1, none⟩ = some (.slice A1 (F i).length c1)) := Lib.hid ((HBE0.out.cell (p := ⟨(ad.add (i * 2)).block, (ad.add (i * 2)).off + 1, none⟩) hadf).trans f1)
                have HFE := Lib.hid (Rp.ext _ HFB.out HBE0.out)
                have HAE : Hid ((ad.add (i * 2)).block < wE.heap.size) := Lib.hid (Nat.lt_of_lt_of_le hadf HBE0.out.size)
                clear hdi HB2 HO2 HFB f1 hadf ck HBE0 HXG
                have hcl := copiesK_len (d := d) (x := x) (bad := bad) (gone := y) i k
                by_cases hkb : k = bad
                · have h23 : ((k : Int) == (bad : Int)) = true := by rw [beq_iff_eq]; omega
                  have h25 : ((k : Int) != (bad : Int)) = false := by rw [bne_eq_false_iff_eq]; omega
                  have HKB := Lib.hid hkb
                  clear hkb
                  by_cases hev : i % 2 = 0
                  · have h24 : ((i : Int).tmod 2 == 0) = true := by rw [beq_iff_eq, Int.tmod_eq_emod_of_nonneg (by omega)]; omega
                    have h24b : (((i % 2 : Nat) : Int) == 0) = true := by rw [beq_iff_eq]; omega
                    have h24c : ((i : Int) % 2 == 0) = true := by rw [beq_iff_eq]; omega
                    have h24d : (i % 2 == 0) = true := by rw [beq_iff_eq]; omega
                    have HEV := Lib.hid hev
                    clear hev
                    have hcs := Lib.run_convert_bytes_const (P := Tryz.prog) wE 33 5 #[.int .u8 120] 1 1 Tryz.underlying33 Tryz.underlying5
                    have hla := (Below.refl wE.heap.size wE).alloc (Nat.le_refl _) (.cells #[.int .u8 120] 5 (1, 2))
                    have HLA := Lib.hid hla
                    have f1 : (wE.alloc (.cells #[.int .u8 120] 5 (1, 2))).cell? ⟨(ad.add (i * 2)).block, (ad.add (i * 2)).off + 1, none⟩ = some (.slice A1 (F i).length c1) := (hla.cell (p := ⟨(ad.add (i * 2)).block, (ad.add (i * 2)).off + 1, none⟩) HAE.out).trans HF1.out
                    obtain ⟨A9, c9, w9, hrun, hr9, hb9'⟩ := run_app_mark (wE.alloc (.cells #[.int .u8 120] 5 (1, 2))) wE.heap.size (Rp.ext _ HFE.out hla) (heap_alloc_new wE _) hln
                    have HRUN := Lib.hid hrun
                    have HR9 := Lib.hid hr9
                    have HB9 := Lib.hid (ext_trans hla hb9')
                    clear hla hrun hr9 hb9'
                    go_wp2_with (at_builtin; refine Lib.wpList_append_run _ rfl _ _ _ _ rfl _ _ rfl rfl _ _ (HRUN.out _) ?_)
                    have hb9 : Below wE.heap.size wE w9 := HB9.out
                    have hr9 := HR9.out
                    refine (digest_any _ (120 :: F i) w9 _ hr9).mono ?_
                    rintro e w10 ⟨rfl, hb10⟩
                    rw [show hexL (fnv (120 :: F i)) 16 = x i from (HX2.out i).symm]
                    have hb11 := ext_trans hb9 hb10
                    have HBF0 := Lib.hid hb11
                    have HXG := Lib.hid (HXE.out.same (same_below hb11) HXE.out.lt)
                    have HOG := Lib.hid (own_belowR HOE.out hb11)
                    clear hb9 hr9 hb10 hb11 HB9 HR9 HRUN HLA f1 hcs
                    have y0 : w10.cell? ⟨xb, 2, none⟩ = some (.string (bstr (d i))) := HXG.out.cell 2
                    have y1 := HXG.out.frozen 2
                    have HXF := Lib.hid (HXG.out.set_ 2 (.string (bstr (x i))))
                    have HOF := Lib.hid (own_setR HOG.out HXN.out (i := 2) (.string (bstr (x i))))
                    have HBF : Hid (Below w7.heap.size w7 (w10.setCell ⟨xb, 2, none⟩ (.string (bstr (x i))))) := Lib.hid ((HBE.out.trans (HBF0.out.mono HBE.out.size)).setCell (p := ⟨xb, 2, none⟩) HXW.out _)
                    by_cases hgn : (i : Int) = y
                    · have h26 : ((i : Int) != y) = false := by rw [bne_eq_false_iff_eq]; exact hgn
                      have HSK := Lib.hid (copiesK_skip (d := d) (x := x) (bad := bad) (gone := y) (i := i) (k := k) (by exact ⟨HKB.out, hgn⟩))
                      clear hgn
                      go_wp2_with fail
                      go_roundw
                      case rel => first | exact ⟨k + 1, _, by omega, rfl, by go_num, HBF, Lib.hid (by rw [HSK.out]; exact HOF.out)⟩ | (repeat (apply Exists.intro); (refine And.intro ?_ ?_; rotate_left; (repeat' (first | exact rfl | apply And.intro)); exact ⟨k + 1, _, by omega, rfl, by go_num, HBF, Lib.hid (by rw [HSK.out]; exact HOF.out)⟩))
                      case measure => simp [intOf]; omega
                    · have h26 : ((i : Int) != y) = true := by rw [bne_iff_ne]; exact hgn
                      obtain ⟨wF, hwF⟩ : ∃ wF, (w10.setCell ⟨xb, 2, none⟩ (.string (bstr (x i)))) = wF := ⟨_, rfl⟩
                      rw [hwF] at HXF HOF HBF
                      have x0 : wF.cell? ⟨xb, 0, none⟩ = some (.string (bstr (itemR i))) := HXF.out.cell 0
                      have x1 : wF.cell? ⟨xb, 1, none⟩ = some (.string (bstr (nmS k))) := HXF.out.cell 1
                      have x2 : wF.cell? ⟨xb, 2, none⟩ = some (.string (bstr (x i))) := HXF.out.cell 2
                      have hszF : w7.heap.size ≤ wF.heap.size := HBF.out.size
                      have HEQ : Hid (copyR d x bad i k = ⟨itemR i, nmS k, (x i)⟩) := Lib.hid (by unfold copyR digR; rw [if_pos ⟨HKB.out, HEV.out⟩])
                      have HNX := Lib.hid (copiesK_next (d := d) (x := x) (bad := bad) (gone := y) (i := i) (k := k) (by exact fun h => hgn h.2))
                      obtain ⟨Av, cv, rfl, _⟩ := own_form HOF.out
                      clear hgn
                      go_wp2_with (at_builtin; refine app_new (w := wF) rfl (.tmp 145) (.tmp 147) 47 rfl 54 (.agg #[.string ⟨#[]⟩, .string ⟨#[]⟩, .string ⟨#[]⟩]) 3 48 Tryz.underlying47 heldR_info rfl (by decide) (m := 1) [.string (bstr (itemR i)), .string (bstr (nmS k)), .string (bstr (x i))] HOF.out hszF rfl rfl rfl (by decide) (by simp [Value.oneCell']) (by unfold maxLen; omega) (by omega) ?_; intro g4 c4 w14 HO14 HG14 HD14 HL14)
                      go_roundw
                      case rel => first | exact ⟨k + 1, _, by omega, rfl, by go_num, Lib.hid (HD14.out _ HBF.out), Lib.hid (by rw [HNX.out, HEQ.out]; exact own_push (a := (⟨itemR i, nmS k, (x i)⟩ : Held)) HO14.out)⟩ | (repeat (apply Exists.intro); (refine And.intro ?_ ?_; rotate_left; (repeat' (first | exact rfl | apply And.intro)); exact ⟨k + 1, _, by omega, rfl, by go_num, Lib.hid (HD14.out _ HBF.out), Lib.hid (by rw [HNX.out, HEQ.out]; exact own_push (a := (⟨itemR i, nmS k, (x i)⟩ : Held)) HO14.out)⟩))
                      case measure => simp [intOf]; omega
                  · have h24 : ((i : Int).tmod 2 == 0) = false := by rw [beq_eq_false_iff_ne, Int.tmod_eq_emod_of_nonneg (by omega)]; omega
                    have h24b : (((i % 2 : Nat) : Int) == 0) = false := by rw [beq_eq_false_iff_ne]; omega
                    have h24c : ((i : Int) % 2 == 0) = false := by rw [beq_eq_false_iff_ne]; omega
                    have h24d : (i % 2 == 0) = false := by rw [beq_eq_false_iff_ne]; omega
                    have HEV := Lib.hid hev
                    clear hev
                    by_cases hgn : (i : Int) = y
                    · have h26 : ((i : Int) != y) = false := by rw [bne_eq_false_iff_eq]; exact hgn
                      have HSK := Lib.hid (copiesK_skip (d := d) (x := x) (bad := bad) (gone := y) (i := i) (k := k) (by exact ⟨HKB.out, hgn⟩))
                      clear hgn
                      go_wp2_with fail
                      go_roundw
                      case rel => first | exact ⟨k + 1, _, by omega, rfl, by go_num, HBE, Lib.hid (by rw [HSK.out]; exact HOE.out)⟩ | (repeat (apply Exists.intro); (refine And.intro ?_ ?_; rotate_left; (repeat' (first | exact rfl | apply And.intro)); exact ⟨k + 1, _, by omega, rfl, by go_num, HBE, Lib.hid (by rw [HSK.out]; exact HOE.out)⟩))
                      case measure => simp [intOf]; omega
                    · have h26 : ((i : Int) != y) = true := by rw [bne_iff_ne]; exact hgn
                      have x0 : wE.cell? ⟨xb, 0, none⟩ = some (.string (bstr (itemR i))) := HXE.out.cell 0
                      have x1 : wE.cell? ⟨xb, 1, none⟩ = some (.string (bstr (nmS k))) := HXE.out.cell 1
                      have x2 : wE.cell? ⟨xb, 2, none⟩ = some (.string (bstr (d i))) := HXE.out.cell 2
                      have hszF : w7.heap.size ≤ wE.heap.size := HBE.out.size
                      have HEQ : Hid (copyR d x bad i k = ⟨itemR i, nmS k, (d i)⟩) := Lib.hid (by unfold copyR digR; rw [if_neg (fun h => HEV.out h.2)])
                      have HNX := Lib.hid (copiesK_next (d := d) (x := x) (bad := bad) (gone := y) (i := i) (k := k) (by exact fun h => hgn h.2))
                      obtain ⟨Av, cv, rfl, _⟩ := own_form HOE.out
                      clear hgn
                      go_wp2_with (at_builtin; refine app_new (w := wE) rfl (.tmp 145) (.tmp 147) 47 rfl 54 (.agg #[.string ⟨#[]⟩, .string ⟨#[]⟩, .string ⟨#[]⟩]) 3 48 Tryz.underlying47 heldR_info rfl (by decide) (m := 1) [.string (bstr (itemR i)), .string (bstr (nmS k)), .string (bstr (d i))] HOE.out hszF rfl rfl rfl (by decide) (by simp [Value.oneCell']) (by unfold maxLen; omega) (by omega) ?_; intro g4 c4 w14 HO14 HG14 HD14 HL14)
                      go_roundw
                      case rel => first | exact ⟨k + 1, _, by omega, rfl, by go_num, Lib.hid (HD14.out _ HBE.out), Lib.hid (by rw [HNX.out, HEQ.out]; exact own_push (a := (⟨itemR i, nmS k, (d i)⟩ : Held)) HO14.out)⟩ | (repeat (apply Exists.intro); (refine And.intro ?_ ?_; rotate_left; (repeat' (first | exact rfl | apply And.intro)); exact ⟨k + 1, _, by omega, rfl, by go_num, Lib.hid (HD14.out _ HBE.out), Lib.hid (by rw [HNX.out, HEQ.out]; exact own_push (a := (⟨itemR i, nmS k, (d i)⟩ : Held)) HO14.out)⟩))
                      case measure => simp [intOf]; omega
                · have h23 : ((k : Int) == (bad : Int)) = false := by rw [beq_eq_false_iff_ne]; omega
                  have h25 : ((k : Int) != (bad : Int)) = true := by rw [bne_iff_ne]; omega
                  have HKB := Lib.hid hkb
                  clear hkb
                  have x0 : wE.cell? ⟨xb, 0, none⟩ = some (.string (bstr (itemR i))) := HXE.out.cell 0
                  have x1 : wE.cell? ⟨xb, 1, none⟩ = some (.string (bstr (nmS k))) := HXE.out.cell 1
                  have x2 : wE.cell? ⟨xb, 2, none⟩ = some (.string (bstr (d i))) := HXE.out.cell 2
                  have hszF : w7.heap.size ≤ wE.heap.size := HBE.out.size
                  have HEQ : Hid (copyR d x bad i k = ⟨itemR i, nmS k, (d i)⟩) := Lib.hid (by unfold copyR digR; rw [if_neg (fun h => HKB.out h.1)])
                  have HNX := Lib.hid (copiesK_next (d := d) (x := x) (bad := bad) (gone := y) (i := i) (k := k) (by exact fun h => HKB.out h.1))
                  obtain ⟨Av, cv, rfl, _⟩ := own_form HOE.out
                  go_wp2_with (at_builtin; refine app_new (w := wE) rfl (.tmp 145) (.tmp 147) 47 rfl 54 (.agg #[.string ⟨#[]⟩, .string ⟨#[]⟩, .string ⟨#[]⟩]) 3 48 Tryz.underlying47 heldR_info rfl (by decide) (m := 1) [.string (bstr (itemR i)), .string (bstr (nmS k)), .string (bstr (d i))] HOE.out hszF rfl rfl rfl (by decide) (by simp [Value.oneCell']) (by unfold maxLen; omega) (by omega) ?_; intro g4 c4 w14 HO14 HG14 HD14 HL14)
                  go_roundw
                  case rel => first | exact ⟨k + 1, _, by omega, rfl, by go_num, Lib.hid (HD14.out _ HBE.out), Lib.hid (by rw [HNX.out, HEQ.out]; exact own_push (a := (⟨itemR i, nmS k, (d i)⟩ : Held)) HO14.out)⟩ | (repeat (apply Exists.intro); (refine And.intro ?_ ?_; rotate_left; (repeat' (first | exact rfl | apply And.intro)); exact ⟨k + 1, _, by omega, rfl, by go_num, Lib.hid (HD14.out _ HBE.out), Lib.hid (by rw [HNX.out, HEQ.out]; exact own_push (a := (⟨itemR i, nmS k, (d i)⟩ : Held)) HO14.out)⟩))
                  case measure => simp [intOf]; omega
              · rw [if_pos (by rfl)]
                simp only [List.getElem_toArray, List.getElem_cons_succ, List.getElem_cons_zero]
                go_simp
                refine hK.out _ _ (HBQ.out.alloc HBQ.out.size _) (fun hHeld => ?_)
                clear hK K
                try simp only [List.getElem_toArray, List.getElem_cons_succ, List.getElem_cons_zero, Act.put, List.setIfInBounds_toArray, List.set_cons_zero, List.set_cons_succ]
                have hkn := Blk.new wq 54 [.string ⟨#[]⟩, .string ⟨#[]⟩, .string ⟨#[]⟩]
                have HKN := Lib.hid hkn
                have HBZ := Lib.hid (HBQ.out.alloc HBQ.out.size (.cells #[.string ⟨#[]⟩, .string ⟨#[]⟩, .string ⟨#[]⟩] 54))
                have HXG : Hid (wr.heap.size ≤ wq.heap.size) := Lib.hid HBQ.out.size
                obtain ⟨xb, hxb⟩ : ∃ xb, wq.heap.size = xb := ⟨_, rfl⟩
                rw [hxb] at HKN HXG ⊢
                clear hkn hxb
                generalize wq.alloc (.cells #[.string ⟨#[]⟩, .string ⟨#[]⟩, .string ⟨#[]⟩] 54) = wz at *
                refine wpAnyH_ready (rs := [11]) (by kernel_rfl) (by simp) ?_
                refine AllReadyH.cons rfl (fun K hK => ?_) AllReadyH.nil
                rw [if_pos (by rfl)]
                simp only [List.getElem_toArray, List.getElem_cons_succ, List.getElem_cons_zero]
                go_simp
                go_at_call 11
                refine (digest_any _ _ wz _ (Rp.ext _ HFB.out HBZ.out)).mono ?_
                rintro e wd ⟨rfl, hb⟩
                have HBD := Lib.hid (ext_trans HBZ.out hb)
                have HKD := Lib.hid (HKN.out.same (same_below hb) HKN.out.lt)
                have hbd := HBD.out
                show K _ wd
                refine hK.out _ _ hbd (fun hHeld => ?_)
                clear hK K hb hbd
                try simp only [List.getElem_toArray, List.getElem_cons_succ, List.getElem_cons_zero, Act.put, List.setIfInBounds_toArray, List.set_cons_zero, List.set_cons_succ]
                refine wpAnyH_take (i := 12) (v := ?_) rfl (by kernel_rfl) (by kernel_rfl) (by kernel_rfl) (fun _ _ _ h => h) (Or.inl ⟨by rfl, ?_⟩) (by assumption) ?_
                rotate_left
                · (intro w hSw; go_simp; try with_reducible rfl)
                try simp only [List.getElem_toArray, List.getElem_cons_succ, List.getElem_cons_zero, Act.put, List.setIfInBounds_toArray, List.set_cons_zero, List.set_cons_succ]
                have n0 := HKD.out.cell 0
                have n1 := HKD.out.cell 1
                have n2 := HKD.out.cell 2
                have z0 := HKD.out.frozen 0
                have z1 := HKD.out.frozen 1
                have z2 := HKD.out.frozen 2
                refine wpAnyH_ready (rs := [14]) (by kernel_rfl) (by simp) ?_
                refine AllReadyH.cons rfl (fun K hK => ?_) AllReadyH.nil
                rw [if_pos (by rfl)]
                simp only [List.getElem_toArray, List.getElem_cons_succ, List.getElem_cons_zero]
                go_simp
                refine hK.out _ _ (((HBD.out.setCell (p := ⟨xb, 0, none⟩) HXG.out _).setCell (p := ⟨xb, 1, none⟩) HXG.out _).setCell (p := ⟨xb, 2, none⟩) HXG.out _) (fun hHeld => ?_)
                clear hK K
                try simp only [List.getElem_toArray, List.getElem_cons_succ, List.getElem_cons_zero, Act.put, List.setIfInBounds_toArray, List.set_cons_zero, List.set_cons_succ]
                refine wpAnyH_done (by kernel_rfl) ?_ _
                clear hHeld n0 n1 n2 z0 z1 z2
                have HXE : Hid (Blk (((wd.setCell ⟨xb, 0, none⟩ (.string (bstr (itemR i)))).setCell ⟨xb, 1, none⟩ (.string (bstr (nmS k)))).setCell ⟨xb, 2, none⟩ (.string (bstr (hexL (fnv (F i)) 16)))) xb 54 [.string (bstr (itemR i)), .string (bstr (nmS k)), .string (bstr (hexL (fnv (F i)) 16))]) := Lib.hid (((HKD.out.set_ 0 _).set_ 1 _).set_ 2 _)
                have HBE0 := Lib.hid (((HBD.out.setCell (p := ⟨xb, 0, none⟩) HXG.out (.string (bstr (itemR i)))).setCell (p := ⟨xb, 1, none⟩) HXG.out (.string (bstr (nmS k)))).setCell (p := ⟨xb, 2, none⟩) HXG.out (.string (bstr (hexL (fnv (F i)) 16))))
                generalize ((wd.setCell ⟨xb, 0, none⟩ (.string (bstr (itemR i)))).setCell ⟨xb, 1, none⟩ (.string (bstr (nmS k)))).setCell ⟨xb, 2, none⟩ (.string (bstr (hexL (fnv (F i)) 16))) = wE at *
                clear HBD HBZ HBQ HKN HKD
                have hdi : hexL (fnv (F i)) 16 = d i := (HD.out i).symm
                rw [hdi] at HXE ⊢
                have HBE := Lib.hid (HB2.out.trans (HBE0.out.mono hwr))
                have HOE := Lib.hid (own_belowR HO2.out HBE0.out)
                have HXN : Hid (∀ g, vc.ownBlock = some g → g ≠ xb) := Lib.hid (fun g hg => Nat.ne_of_lt (Nat.lt_of_lt_of_le (HO2.out.lt g hg).2 HXG.out))
                have HXW : Hid (w7.heap.size ≤ xb) := Lib.hid (Nat.le_trans hwr HXG.out)
                have HF1 : Hid (wE.cell? ⟨(ad.add (i * 2)).block, (ad.add (i * 2)).off + 1, none⟩ = some (.slice A1 (F i).length c1)) := Lib.hid ((HBE0.out.cell (p := ⟨(ad.add (i * 2)).block, (ad.add (i * 2)).off + 1, none⟩) hadf).trans f1)
                have HFE := Lib.hid (Rp.ext _ HFB.out HBE0.out)
                have HAE : Hid ((ad.add (i * 2)).block < wE.heap.size) := Lib.hid (Nat.lt_of_lt_of_le hadf HBE0.out.size)
                clear hdi HB2 HO2 HFB f1 hadf ck HBE0 HXG
                have hcl := copiesK_len (d := d) (x := x) (bad := bad) (gone := y) i k
                by_cases hkb : k = bad
                · have h23 : ((k : Int) == (bad : Int)) = true := by rw [beq_iff_eq]; omega
                  have h25 : ((k : Int) != (bad : Int)) = false := by rw [bne_eq_false_iff_eq]; omega
                  have HKB := Lib.hid hkb
                  clear hkb
                  by_cases hev : i % 2 = 0
                  · have h24 : ((i : Int).tmod 2 == 0) = true := by rw [beq_iff_eq, Int.tmod_eq_emod_of_nonneg (by omega)]; omega
                    have h24b : (((i % 2 : Nat) : Int) == 0) = true := by rw [beq_iff_eq]; omega
                    have h24c : ((i : Int) % 2 == 0) = true := by rw [beq_iff_eq]; omega
                    have h24d : (i % 2 == 0) = true := by rw [beq_iff_eq]; omega
                    have HEV := Lib.hid hev
                    clear hev
                    have hcs := Lib.run_convert_bytes_const (P := Tryz.prog) wE 33 5 #[.int .u8 120] 1 1 Tryz.underlying33 Tryz.underlying5
                    have hla := (Below.refl wE.heap.size wE).alloc (Nat.le_refl _) (.cells #[.int .u8 120] 5 (1, 2))
                    have HLA := Lib.hid hla
                    have f1 : (wE.alloc (.cells #[.int .u8 120] 5 (1, 2))).cell? ⟨(ad.add (i * 2)).block, (ad.add (i * 2)).off + 1, none⟩ = some (.slice A1 (F i).length c1) := (hla.cell (p := ⟨(ad.add (i * 2)).block, (ad.add (i * 2)).off + 1, none⟩) HAE.out).trans HF1.out
                    obtain ⟨A9, c9, w9, hrun, hr9, hb9'⟩ := run_app_mark (wE.alloc (.cells #[.int .u8 120] 5 (1, 2))) wE.heap.size (Rp.ext _ HFE.out hla) (heap_alloc_new wE _) hln
                    have HRUN := Lib.hid hrun
                    have HR9 := Lib.hid hr9
                    have HB9 := Lib.hid (ext_trans hla hb9')
                    clear hla hrun hr9 hb9'
                    go_wp2_with (at_builtin; refine Lib.wpList_append_run _ rfl _ _ _ _ rfl _ _ rfl rfl _ _ (HRUN.out _) ?_)
                    have hb9 : Below wE.heap.size wE w9 := HB9.out
                    have hr9 := HR9.out
                    refine (digest_any _ (120 :: F i) w9 _ hr9).mono ?_
                    rintro e w10 ⟨rfl, hb10⟩
                    rw [show hexL (fnv (120 :: F i)) 16 = x i from (HX2.out i).symm]
                    have hb11 := ext_trans hb9 hb10
                    have HBF0 := Lib.hid hb11
                    have HXG := Lib.hid (HXE.out.same (same_below hb11) HXE.out.lt)
                    have HOG := Lib.hid (own_belowR HOE.out hb11)
                    clear hb9 hr9 hb10 hb11 HB9 HR9 HRUN HLA f1 hcs
                    have y0 : w10.cell? ⟨xb, 2, none⟩ = some (.string (bstr (d i))) := HXG.out.cell 2
                    have y1 := HXG.out.frozen 2
                    have HXF := Lib.hid (HXG.out.set_ 2 (.string (bstr (x i))))
                    have HOF := Lib.hid (own_setR HOG.out HXN.out (i := 2) (.string (bstr (x i))))
                    have HBF : Hid (Below w7.heap.size w7 (w10.setCell ⟨xb, 2, none⟩ (.string (bstr (x i))))) := Lib.hid ((HBE.out.trans (HBF0.out.mono HBE.out.size)).setCell (p := ⟨xb, 2, none⟩) HXW.out _)
                    by_cases hgn : (i : Int) = y
                    · have h26 : ((i : Int) != y) = false := by rw [bne_eq_false_iff_eq]; exact hgn
                      have HSK := Lib.hid (copiesK_skip (d := d) (x := x) (bad := bad) (gone := y) (i := i) (k := k) (by exact ⟨HKB.out, hgn⟩))
                      clear hgn
                      go_wp2_with fail
                      go_roundw
                      case rel => first | exact ⟨k + 1, _, by omega, rfl, by go_num, HBF, Lib.hid (by rw [HSK.out]; exact HOF.out)⟩ | (repeat (apply Exists.intro); (refine And.intro ?_ ?_; rotate_left; (repeat' (first | exact rfl | apply And.intro)); exact ⟨k + 1, _, by omega, rfl, by go_num, HBF, Lib.hid (by rw [HSK.out]; exact HOF.out)⟩))
                      case measure => simp [intOf]; omega
                    · have h26 : ((i : Int) != y) = true := by rw [bne_iff_ne]; exact hgn
                      obtain ⟨wF, hwF⟩ : ∃ wF, (w10.setCell ⟨xb, 2, none⟩ (.string (bstr (x i)))) = wF := ⟨_, rfl⟩
                      rw [hwF] at HXF HOF HBF
                      have x0 : wF.cell? ⟨xb, 0, none⟩ = some (.string (bstr (itemR i))) := HXF.out.cell 0
                      have x1 : wF.cell? ⟨xb, 1, none⟩ = some (.string (bstr (nmS k))) := HXF.out.cell 1
                      have x2 : wF.cell? ⟨xb, 2, none⟩ = some (.string (bstr (x i))) := HXF.out.cell 2
                      have hszF : w7.heap.size ≤ wF.heap.size := HBF.out.size
                      have HEQ : Hid (copyR d x bad i k = ⟨itemR i, nmS k, (x i)⟩) := Lib.hid (by unfold copyR digR; rw [if_pos ⟨HKB.out, HEV.out⟩])
                      have HNX := Lib.hid (copiesK_next (d := d) (x := x) (bad := bad) (gone := y) (i := i) (k := k) (by exact fun h => hgn h.2))
                      obtain ⟨Av, cv, rfl, _⟩ := own_form HOF.out
                      clear hgn
                      go_wp2_with (at_builtin; refine app_new (w := wF) rfl (.tmp 145) (.tmp 147) 47 rfl 54 (.agg #[.string ⟨#[]⟩, .string ⟨#[]⟩, .string ⟨#[]⟩]) 3 48 Tryz.underlying47 heldR_info rfl (by decide) (m := 1) [.string (bstr (itemR i)), .string (bstr (nmS k)), .string (bstr (x i))] HOF.out hszF rfl rfl rfl (by decide) (by simp [Value.oneCell']) (by unfold maxLen; omega) (by omega) ?_; intro g4 c4 w14 HO14 HG14 HD14 HL14)
                      go_roundw
                      case rel => first | exact ⟨k + 1, _, by omega, rfl, by go_num, Lib.hid (HD14.out _ HBF.out), Lib.hid (by rw [HNX.out, HEQ.out]; exact own_push (a := (⟨itemR i, nmS k, (x i)⟩ : Held)) HO14.out)⟩ | (repeat (apply Exists.intro); (refine And.intro ?_ ?_; rotate_left; (repeat' (first | exact rfl | apply And.intro)); exact ⟨k + 1, _, by omega, rfl, by go_num, Lib.hid (HD14.out _ HBF.out), Lib.hid (by rw [HNX.out, HEQ.out]; exact own_push (a := (⟨itemR i, nmS k, (x i)⟩ : Held)) HO14.out)⟩))
                      case measure => simp [intOf]; omega
                  · have h24 : ((i : Int).tmod 2 == 0) = false := by rw [beq_eq_false_iff_ne, Int.tmod_eq_emod_of_nonneg (by omega)]; omega
                    have h24b : (((i % 2 : Nat) : Int) == 0) = false := by rw [beq_eq_false_iff_ne]; omega
                    have h24c : ((i : Int) % 2 == 0) = false := by rw [beq_eq_false_iff_ne]; omega
                    have h24d : (i % 2 == 0) = false := by rw [beq_eq_false_iff_ne]; omega
                    have HEV := Lib.hid hev
                    clear hev
                    by_cases hgn : (i : Int) = y
                    · have h26 : ((i : Int) != y) = false := by rw [bne_eq_false_iff_eq]; exact hgn
                      have HSK := Lib.hid (copiesK_skip (d := d) (x := x) (bad := bad) (gone := y) (i := i) (k := k) (by exact ⟨HKB.out, hgn⟩))
                      clear hgn
                      go_wp2_with fail
                      go_roundw
                      case rel => first | exact ⟨k + 1, _, by omega, rfl, by go_num, HBE, Lib.hid (by rw [HSK.out]; exact HOE.out)⟩ | (repeat (apply Exists.intro); (refine And.intro ?_ ?_; rotate_left; (repeat' (first | exact rfl | apply And.intro)); exact ⟨k + 1, _, by omega, rfl, by go_num, HBE, Lib.hid (by rw [HSK.out]; exact HOE.out)⟩))
                      case measure => simp [intOf]; omega
                    · have h26 : ((i : Int) != y) = true := by rw [bne_iff_ne]; exact hgn
                      have x0 : wE.cell? ⟨xb, 0, none⟩ = some (.string (bstr (itemR i))) := HXE.out.cell 0
                      have x1 : wE.cell? ⟨xb, 1, none⟩ = some (.string (bstr (nmS k))) := HXE.out.cell 1
                      have x2 : wE.cell? ⟨xb, 2, none⟩ = some (.string (bstr (d i))) := HXE.out.cell 2
                      have hszF : w7.heap.size ≤ wE.heap.size := HBE.out.size
                      have HEQ : Hid (copyR d x bad i k = ⟨itemR i, nmS k, (d i)⟩) := Lib.hid (by unfold copyR digR; rw [if_neg (fun h => HEV.out h.2)])
                      have HNX := Lib.hid (copiesK_next (d := d) (x := x) (bad := bad) (gone := y) (i := i) (k := k) (by exact fun h => hgn h.2))
                      obtain ⟨Av, cv, rfl, _⟩ := own_form HOE.out
                      clear hgn
                      go_wp2_with (at_builtin; refine app_new (w := wE) rfl (.tmp 145) (.tmp 147) 47 rfl 54 (.agg #[.string ⟨#[]⟩, .string ⟨#[]⟩, .string ⟨#[]⟩]) 3 48 Tryz.underlying47 heldR_info rfl (by decide) (m := 1) [.string (bstr (itemR i)), .string (bstr (nmS k)), .string (bstr (d i))] HOE.out hszF rfl rfl rfl (by decide) (by simp [Value.oneCell']) (by unfold maxLen; omega) (by omega) ?_; intro g4 c4 w14 HO14 HG14 HD14 HL14)
                      go_roundw
                      case rel => first | exact ⟨k + 1, _, by omega, rfl, by go_num, Lib.hid (HD14.out _ HBE.out), Lib.hid (by rw [HNX.out, HEQ.out]; exact own_push (a := (⟨itemR i, nmS k, (d i)⟩ : Held)) HO14.out)⟩ | (repeat (apply Exists.intro); (refine And.intro ?_ ?_; rotate_left; (repeat' (first | exact rfl | apply And.intro)); exact ⟨k + 1, _, by omega, rfl, by go_num, Lib.hid (HD14.out _ HBE.out), Lib.hid (by rw [HNX.out, HEQ.out]; exact own_push (a := (⟨itemR i, nmS k, (d i)⟩ : Held)) HO14.out)⟩))
                      case measure => simp [intOf]; omega
                · have h23 : ((k : Int) == (bad : Int)) = false := by rw [beq_eq_false_iff_ne]; omega
                  have h25 : ((k : Int) != (bad : Int)) = true := by rw [bne_iff_ne]; omega
                  have HKB := Lib.hid hkb
                  clear hkb
                  have x0 : wE.cell? ⟨xb, 0, none⟩ = some (.string (bstr (itemR i))) := HXE.out.cell 0
                  have x1 : wE.cell? ⟨xb, 1, none⟩ = some (.string (bstr (nmS k))) := HXE.out.cell 1
                  have x2 : wE.cell? ⟨xb, 2, none⟩ = some (.string (bstr (d i))) := HXE.out.cell 2
                  have hszF : w7.heap.size ≤ wE.heap.size := HBE.out.size
                  have HEQ : Hid (copyR d x bad i k = ⟨itemR i, nmS k, (d i)⟩) := Lib.hid (by unfold copyR digR; rw [if_neg (fun h => HKB.out h.1)])
                  have HNX := Lib.hid (copiesK_next (d := d) (x := x) (bad := bad) (gone := y) (i := i) (k := k) (by exact fun h => HKB.out h.1))
                  obtain ⟨Av, cv, rfl, _⟩ := own_form HOE.out
                  go_wp2_with (at_builtin; refine app_new (w := wE) rfl (.tmp 145) (.tmp 147) 47 rfl 54 (.agg #[.string ⟨#[]⟩, .string ⟨#[]⟩, .string ⟨#[]⟩]) 3 48 Tryz.underlying47 heldR_info rfl (by decide) (m := 1) [.string (bstr (itemR i)), .string (bstr (nmS k)), .string (bstr (d i))] HOE.out hszF rfl rfl rfl (by decide) (by simp [Value.oneCell']) (by unfold maxLen; omega) (by omega) ?_; intro g4 c4 w14 HO14 HG14 HD14 HL14)
                  go_roundw
                  case rel => first | exact ⟨k + 1, _, by omega, rfl, by go_num, Lib.hid (HD14.out _ HBE.out), Lib.hid (by rw [HNX.out, HEQ.out]; exact own_push (a := (⟨itemR i, nmS k, (d i)⟩ : Held)) HO14.out)⟩ | (repeat (apply Exists.intro); (refine And.intro ?_ ?_; rotate_left; (repeat' (first | exact rfl | apply And.intro)); exact ⟨k + 1, _, by omega, rfl, by go_num, Lib.hid (HD14.out _ HBE.out), Lib.hid (by rw [HNX.out, HEQ.out]; exact own_push (a := (⟨itemR i, nmS k, (d i)⟩ : Held)) HO14.out)⟩))
                  case measure => simp [intOf]; omega
            · obtain rfl : k = 3 := by omega
              rw [copiesK_end, ← copiesK_zero] at HO2
              go_wp2_with fail
              go_roundw
              case rel => exact ⟨i + 1, _, by omega, rfl, by go_num, HB2, HO2⟩
              case measure => simp [intOf]; omega
        · obtain rfl : i = l.length := by omega
          rw [copiesK_zero] at HO1
          have hn20 : l.length ≤ 20 := by omega
          obtain ⟨rf, ro, af, ao, alen, cf2, vlen, vall⟩ := repaired_plain (d := d) (x := x) (gone := y) hn20 hbd (fun j _ => by rw [HD.out j]; exact isDig_digL _) (fun j _ => by rw [HX2.out j]; exact isDig_digL _)
          have hcp : (Rp.sl heldRp).ok wr (· < wr.heap.size) [vc1] (copiesR d x bad y l.length) := Rp.of_ownN (R := heldRp) (by decide) (fun _ => rfl) HO1.out (fun g hg => (HO1.out.lt g hg).2) (fun a ha => by
            obtain ⟨j, _, k, _, _, rfl⟩ := copies_mem.1 ha
            have h1 : (copyR d x bad j k).digest.length ≤ maxLen := by
              show (digR d x bad j k).length ≤ maxLen
              unfold digR maxLen
              split
              · rw [HX2.out j, digL_len]; decide
              · rw [HD.out j, digL_len]; decide
            exact ⟨[_], [_, _], rfl, ⟨rfl, (by show (2 : Nat) ≤ maxLen; decide)⟩, [_], [_], rfl, ⟨rfl, (by show (1 : Nat) ≤ maxLen; decide)⟩, ⟨rfl, h1⟩⟩)
          have HCP := Lib.hid hcp
          have HSI8 := Lib.hid (Rp.ext _ HSI7.out HB1.out)
          have HCO8 := Lib.hid (Rp.ext _ HCO.out HB1.out)
          have HRF := Lib.hid rf
          have HRO := Lib.hid ro
          have HAF := Lib.hid af
          have HAO := Lib.hid ao
          have HCF := Lib.hid cf2
          have HVALL := Lib.hid vall
          have HAL := Lib.hid alen
          have HVL := Lib.hid vlen
          clear hcp rf ro af ao cf2 vall alen vlen HO1 HC7 HSI7 HCO hi hil
          go_wp2_with fail
          refine (repairs_any _ siteR _ (copiesR d x bad y l.length) _ costR 2 wr HSI8.out HCP.out HCO8.out).mono ?_
          rintro e wa ⟨r1, r2, rfl, hx1, hx2, hb⟩
          rw [HRO.out] at hx1 hx2
          rw [HRF.out]
          have HBA := Lib.hid (ext_trans HB1.out hb)
          have HSA := Lib.hid (Rp.ext _ HSI8.out hb)
          have HCA := Lib.hid (Rp.ext _ HCP.out hb)
          have HR1 := Lib.hid hx1
          obtain ⟨A5, c5, rfl, _⟩ := Rp.sl_open hx1
          obtain ⟨A6, c6, rfl, _⟩ := Rp.sl_open hx2
          clear hb hx1 hx2 HB1 HSI8 HCP HCO8
          go_wp2_with fail
          refine (after_any _ siteR _ (copiesR d x bad y l.length) _ (outR d x bad y l.length) wa HSA.out HCA.out HR1.out).mono ?_
          rintro e wb ⟨va, rfl, hxa, hb⟩
          rw [HAO.out] at hxa
          rw [HAF.out]
          have HBB := Lib.hid (ext_trans HBA.out hb)
          have HSB := Lib.hid (Rp.ext _ HSA.out hb)
          have HVA := Lib.hid hxa
          obtain ⟨A7, c7, rfl, _⟩ := Rp.sl_open hxa
          clear hb hxa HBA HSA HCA HR1 HRF HRO HAF HAO
          obtain ⟨AL, hAL⟩ : ∃ AL, aftL (copiesR d x bad y l.length) (outR d x bad y l.length) = AL := ⟨_, rfl⟩
          rw [hAL] at HVA HCF HAL HVL HVALL ⊢
          clear hAL
          have hw3 : IntKind.i64.wrap (3 * (l.length : Int)) = 3 * (l.length : Int) := IntWalk.i64_in _ (by omega)
          have hne3 : ((AL.length : Int) != 3 * (l.length : Int)) = false := by rw [bne_eq_false_iff_eq]; have := HAL.out; omega
          go_wp2_with fail
          clear hw3 hne3
          refine (votesTop_any _ siteR _ AL wb HSB.out HVA.out).mono ?_
          rintro e wc ⟨vv, rfl, hv, hb⟩
          rw [votesTopL, if_pos HCF.out] at hv
          rw [HCF.out]
          have HBC := Lib.hid (ext_trans HBB.out hb)
          have HV := Lib.hid hv
          clear hb hv HBB HSB HVA HCF HAL
          obtain ⟨V, hV⟩ : ∃ V, votesOf siteR AL = V := ⟨_, rfl⟩
          rw [hV] at HV HVL HVALL
          clear hV
          obtain ⟨A8, c8, rfl, _⟩ := Rp.sl_open HV.out
          have hneV : ((V.length : Int) != (l.length : Int)) = false := by rw [bne_eq_false_iff_eq]; have := HVL.out; omega
          go_wp2_with fail
          clear hneV
          go_loopw [22] (fun vi w9 => ∃ k : Nat, k ≤ V.length ∧ vi = .int .i64 k ∧ Hid (Drawn wc w9)) (fun vi _ => V.length - (intOf vi).toNat)
          case atStart => exact ⟨0, Nat.zero_le _, rfl, Drawn.refl wc⟩
          case round =>
            obtain ⟨k, hk, rfl, HW⟩ := hrel
            by_cases hlt : k < V.length
            · have hltc : (k : Int) < (V.length : Int) := by omega
              have hkE : k < E.length := by rw [HLE.out]; have := HVL.out; omega
              have hkl : k < l.length := by have := HVL.out; omega
              have hkc : (k : Int) < (E.length : Int) := by omega
              obtain ⟨adv, cv8, x3, x4, e2, hadv, _, v1, v2, v3, _, _, hr, hwr⟩ := votes_at (Rp.drawn _ HV.out HW.out) hlt
              cases e2
              have hbw : Below w7.heap.size w7 wr := by obtain ⟨q, hq⟩ := HW.out; rw [hq]; exact below_drewN HBC.out q
              obtain ⟨ade, ce, e2, hade, _, _, u2, _, _⟩ := ent_at (Rp.ext _ HE7.out hbw) hkE
              cases e2
              obtain ⟨hd1, hd2, hd3⟩ := HVALL.out k hlt
              rw [hd1] at v1
              rw [HEM.out k hkE hkl, show (listedOf l[k]).digest = d k from by rw [HD.out k, HF.out k hkl]; rfl] at u2
              obtain ⟨A3, c3, rfl, _⟩ := Rp.sl_open hr
              obtain ⟨A4, c4, rfl, _⟩ := Rp.sl_open hwr
              rw [List.length_map, hd2] at v2
              rw [List.length_map, hd3] at v3
              have HKP := HK7.out.same (same_below hbw) HK7.out.lt
              have p1 : wr.cell? ⟨pb, 1, none⟩ = some (.slice (some ade) E.length c) := HKP.cell 1
              have hbd0 : ((bstr (d k)).toList != (bstr (d k)).toList) = false := by simp
              clear hr hwr hd1 hd2 hd3 hbw HKP
              go_wp2_with fail
              go_quiet (fail)
              go_wp2_with fail
              go_roundw
              case rel => exact ⟨k + 1, by omega, by go_num, HW.out.more _⟩
              case measure => simp [intOf]; omega
            · obtain rfl : k = V.length := by omega
              obtain ⟨q, hq⟩ := HW.out
              have hbw : Below w7.heap.size w7 wr := by rw [hq]; exact below_drewN HBC.out q
              have HBX := Lib.hid hbw
              have HEX := Lib.hid (Rp.ext _ HE7.out hbw)
              have HKX := HK7.out.same (same_below hbw) HK7.out.lt
              have p0 : wr.cell? ⟨pb, 0, none⟩ = some (.string (bstr [112, 97, 99, 107])) := HKX.cell 0
              have p1 : wr.cell? ⟨pb, 1, none⟩ = some (.slice A E.length c) := HKX.cell 1
              have HFX := Lib.hid (Rp.ext _ H7.out hbw)
              have HGX := Lib.hid (HGA.out.ext hbw)
              clear hq HW hbw HKX HBC HV HVALL
              go_wp2_with fail
              clear p0 p1
              refine (wrong_any [112, 97, 99, 107] _ E _ l wr HEX.out HFX.out HGX.out (by decide)).mono ?_
              rintro e wd ⟨vd, out, rfl, hdd, hb, hp, _⟩
              have hw0 : wrFault [112, 97, 99, 107] E l = 0 := by rw [wrFault, if_pos HPM.out, HFF.out]
              have ho0 : out = [] := by
                have h1 := (hp hw0).1
                rw [HWN.out] at h1
                exact h1.eq_nil
              subst ho0
              rw [hw0]
              obtain ⟨A9, c9, rfl, _⟩ := Rp.sl_open hdd
              have HBY := Lib.hid (ext_trans HBX.out hb)
              have HGY := Lib.hid (HGX.out.ext hb)
              clear hdd hb hp hw0 HEX HFX HGX HBX
              go_wp2_with fail
              refine (lives_any _ HGY.out).mono ?_
              rintro e we ⟨rfl, hb⟩
              have HBZ := Lib.hid (ext_trans HB7.out (ext_trans HBY.out hb))
              clear hb
              go_wp2_with fail
              go_ret
              exact ⟨rfl, HBZ.out⟩
end Go.Proofs.YtnkdcmibafjplaaGreatDoor
