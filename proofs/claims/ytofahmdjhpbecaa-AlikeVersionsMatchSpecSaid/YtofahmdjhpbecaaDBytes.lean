/-
  'put', 'deltaBytes' of package alike: pieces as bytes.
-/
import Derived.Test.YtofahmdjhpbecaaProg
import Derived.Test.YtofahmdjhpbecaaDelta
import Derived.Test.YtofahmdjhpbecaaWords
import Derived.Deep.RegionHeld3
namespace Go.Proofs.Ytofahmdjhpbecaa
open Go.RowKit
set_option linter.unusedVariables false
set_option linter.unusedSimpArgs false

/-- Two bytes of a number. -/
def twoB (n : Nat) : List UInt8 := [UInt8.ofNat (n / 256), UInt8.ofNat n]
theorem hi_byte (n : Nat) (h : n < 65536) : IntKind.u8.wrap ((n : Int) / 256) = ((UInt8.ofNat (n / 256)).toNat : Int) := by
  rw [UInt8.toNat_ofNat', Nat.mod_eq_of_lt (by omega)]
  simp [IntKind.wrap, IntKind.bits, IntKind.signed]
  omega
theorem lo_byte (n : Nat) : IntKind.u8.wrap (n : Int) = ((UInt8.ofNat n).toNat : Int) := by
  rw [UInt8.toNat_ofNat']
  simp [IntKind.wrap, IntKind.bits, IntKind.signed]

theorem bys_app (a b : List UInt8) : bys (a ++ b) = bys a ++ bys b := by simp [bys]
theorem same_both {B : Nat} {w a b : World} (h1 : Below B w a) (h2 : Below B w b) : Same (· < B) a b := fun k hk => (h2.block k hk).trans (h1.block k hk).symm
def PutPost (B : Nat) (v : Value) (n m : Nat) (xs : List Value) (w : World) (e : Ending) (w' : World) : Prop :=
  ∃ g c, e = .returned (.slice (some ⟨g, 0, none⟩) (m + 2) c) ∧ w'.ownsRow B 5 1 (.slice (some ⟨g, 0, none⟩) (m + 2) c) (m + 2) (xs ++ bys (twoB n)) ∧ w.grownBy w' v.ownBlock ∧ (∀ w0, Below B w0 w → Below B w0 w') ∧ (v.ownBlock = some g ∨ w.heap.size ≤ g)
set_option maxRecDepth 100000 in
set_option maxHeartbeats 400000 in
theorem putB_any (B : Nat) (v : Value) (n m : Nat) (xs : List Value) (w : World) (hown : w.ownsRow B 5 1 v m xs) (hB : B ≤ w.heap.size) (hn : n < 65536) (hm : m ≤ 1000000) :
    Calls Try.prog 93 #[v, .int .i64 n] w (PutPost B v n m xs w) := by
  have HO := Lib.hid hown
  obtain ⟨A, c, rfl, hc1, hc2, _⟩ := own_form hown
  have h1 := hi_byte n hn
  have h2 := lo_byte n
  clear hown
  go_enter Try.func93, Try.ntmps93
  go_wp2_with (at_builtin; refine app_new (w := w) rfl (.tmp 5) (.tmp 11) 22 rfl 5 (.int .u8 0) 1 1 Try.underlying22 uint8_info rfl (by decide) (m := 2) [.int .u8 (UInt8.ofNat (n / 256)).toNat, .int .u8 (UInt8.ofNat n).toNat] HO.out hB rfl rfl rfl (by decide) (by simp [Value.oneCell']) (by unfold maxLen; omega) (by omega) ?_; intro g c1 w1 HB1 HG1 HD1 HL1)
  go_ret
  exact ⟨g, c1, rfl, HB1.out, HG1.out, HD1.out, HL1.out⟩

/-- A piece as bytes. -/
def cpBytes (c : Cp) : List UInt8 := if 0 < c.n then 1 :: (twoB c.frm.toNat ++ twoB c.n.toNat) else 2 :: (twoB c.bs.length ++ c.bs)
def dBytes (l : List Cp) : List UInt8 := l.flatMap cpBytes
theorem dBytes_succ (l : List Cp) (k : Nat) (h : k < l.length) : dBytes (l.take (k + 1)) = dBytes (l.take k) ++ cpBytes l[k] := by
  unfold dBytes; rw [List.take_succ_eq_append_getElem h, List.flatMap_append]; simp
theorem dBytes_le (l : List Cp) (k : Nat) : (dBytes (l.take k)).length ≤ (dBytes l).length := by
  have : dBytes l = dBytes (l.take k) ++ dBytes (l.drop k) := by unfold dBytes; rw [← List.flatMap_append, List.take_append_drop]
  rw [this, List.length_append]; omega
/-- A piece that can be written. -/
def CpFit (c : Cp) : Prop := 0 ≤ c.frm ∧ c.frm < 65536 ∧ 0 ≤ c.n ∧ c.n < 65536 ∧ c.bs.length < 65536

def DBytesPost (l : List Cp) (w : World) (e : Ending) (w' : World) : Prop :=
  ∃ v, e = .returned v ∧ w'.ownsRow w.heap.size 5 1 v (dBytes l).length (bys (dBytes l)) ∧ Below w.heap.size w w'

set_option maxRecDepth 100000 in
set_option maxHeartbeats 2000000 in
theorem deltaBytes_any (v : Value) (l : List Cp) (w : World) (h : (Rp.sl cpRp).ok w (· < w.heap.size) [v] l) (hfit : ∀ c ∈ l, CpFit c) (hlen : (dBytes l).length ≤ 900000) :
    Calls Try.prog 80 #[v] w (DBytesPost l w) := by
  obtain ⟨A, c, rfl, hl1, hc1, _⟩ := Rp.sl_open h
  unfold maxLen at hc1
  have H := Lib.hid h
  have HFIT := Lib.hid hfit
  clear h hfit
  go_enter Try.func80, Try.ntmps80
  go_wp2
  go_loopw [3, 8] (fun vo i wr => ∃ k : Nat, k ≤ l.length ∧ i = .int .i64 k ∧ Hid (wr.ownsRow w.heap.size 5 1 vo (dBytes (l.take k)).length (bys (dBytes (l.take k)))) ∧ Hid (Below w.heap.size w wr)) (fun _ i _ => l.length - (intOf i).toNat)
  case atStart => exact ⟨0, by omega, rfl, World.ownsRow_nil _ _ _ _, Below.refl _ _⟩
  case round =>
    obtain ⟨k, hk, rfl, HO, HB⟩ := hrel
    have hwsz := HB.out.size
    by_cases hlt : k < l.length
    · obtain ⟨ad, us, rfl, _, hadb, hu, hcell⟩ := Rp.sl_at (Rp.below _ H.out HB.out) hlt
      obtain ⟨vb, rfl, hvb, hw1, hw2⟩ := cp_open hu
      have c0 : wr.cell? (ad.add (k * 3)) = some (.int .i64 l[k].frm) := hcell 0 _ rfl
      have c1 := hcell 1 _ rfl
      have c2 := hcell 2 _ rfl
      rw [add_fld _ _ _ (by omega)] at c1 c2
      change wr.cell? ⟨(ad.add (k * 3)).block, (ad.add (k * 3)).off + 1, none⟩ = some (.int .i64 l[k].n) at c1
      change wr.cell? ⟨(ad.add (k * 3)).block, (ad.add (k * 3)).off + 2, none⟩ = some vb at c2
      obtain ⟨A3, c3, rfl, hl3, hc3, _⟩ := Rp.sl_open hvb
      unfold maxLen at hc3
      obtain ⟨f1, f2, f3, f4, f5⟩ := HFIT.out _ (List.getElem_mem hlt)
      have HVB := Lib.hid hvb
      have hst := dBytes_succ l k hlt
      have hle := dBytes_le l (k + 1)
      have hle0 := dBytes_le l k
      rw [hst, List.length_append] at hle
      have HST := Lib.hid hst
      obtain ⟨A5, c5, rfl, hn5, hc5, hown5⟩ := own_form HO.out
      clear hst hcell hu hvb hw1 hw2 hadb
      generalize hcp : l[k] = cp at *
      obtain ⟨frm, n, bs⟩ := cp
      clear hcp
      simp only [] at c0 c1 hl3 f1 f2 f3 f4 f5
      obtain ⟨frm, rfl⟩ := Int.eq_ofNat_of_zero_le f1
      obtain ⟨n, rfl⟩ := Int.eq_ofNat_of_zero_le f3
      obtain ⟨m, hm⟩ : ∃ m, (dBytes (l.take k)).length = m := ⟨_, rfl⟩
      rw [hm] at HO hle hn5 ⊢
      by_cases hn0 : 0 < n
      · have hcb : cpBytes ⟨(frm : Int), (n : Int), bs⟩ = 1 :: (twoB frm ++ twoB n) := by rw [cpBytes, if_pos (by simpa using hn0)]; simp
        rw [hcb] at HST hle
        simp only [twoB, List.length_cons, List.length_append, List.length_nil] at hle
        have HM := Lib.hid hm
        rw [hm] at hown5
        have hng : (Value.slice A5 m c5).ownBlock ≠ some wr.heap.size := fun e => by have := (hown5 _ e).2; omega
        have HNG := Lib.hid hng
        have hO1 := HO.out.alloc (.cells #[.int .i64 frm, .int .i64 n, .slice A3 bs.length c3] 93)
        have HO1 := Lib.hid hO1
        have hs1 : w.heap.size ≤ (wr.alloc (.cells #[.int .i64 frm, .int .i64 n, .slice A3 bs.length c3] 93)).heap.size := by simp; omega
        have HB1 := Lib.hid (HB.out.alloc hwsz (.cells #[.int .i64 frm, .int .i64 n, .slice A3 bs.length c3] 93))
        clear hm hcb hng hown5 hO1
        have hkb := Blk.new wr 93 [.int .i64 frm, .int .i64 n, .slice A3 bs.length c3]
        have k0 : _ = some (Value.int .i64 frm) := hkb.cell 0
        have k1 : _ = some (Value.int .i64 n) := hkb.cell 1
        have hwcs : wr.heap.size < (wr.alloc (.cells #[.int .i64 frm, .int .i64 n, .slice A3 bs.length c3] 93)).heap.size := by simp
        clear hkb
        go_wp2
        generalize wr.alloc (.cells #[.int .i64 frm, .int .i64 n, .slice A3 bs.length c3] 93) = wc at *
        go_region_held3 (fun w' => w'.cell? ⟨wr.heap.size, 0, none⟩ = some (.int .i64 frm) ∧ w'.cell? ⟨wr.heap.size, 1, none⟩ = some (.int .i64 n)) (first | go_keep | exact ⟨k0, k1⟩) (first
          | (refine step_app_new (w := wc) (by rfl) (.tmp 15) (.tmp 16) 22 (by rfl) 5 (.int .u8 0) 1 1 Try.underlying22 uint8_info rfl (by decide) (m := 1) [.int .u8 1] 1 (by rfl) HO1.out hs1 (by rfl) (by rfl) (by rfl) (by decide) (by simp [Value.oneCell']) (by unfold maxLen; omega) (by omega) ?_; intro g1 cc1 w1 HOX HG1 HB2 HL1; have HBX := Lib.hid (HB2.out _ HB1.out); have hsx := HBX.out.size; have k0 := HG1.out.cell k0 (fun e => HNG.out e.symm); have k1 := HG1.out.cell k1 (fun e => HNG.out e.symm); have hlx := HG1.out.size; have hgx : g1 ≠ wr.heap.size := (by rcases HL1.out with h | h; (intro e; exact HNG.out (by rw [h, e])); omega); clear HG1 HB2 HL1)
          | (go_at_call 93; refine (putB_any w.heap.size _ _ _ _ _ HOX.out hsx (by omega) (by omega)).mono ?_; rintro e w2 ⟨g2, cc2, rfl, ho3, hg3, hb3, hl3⟩; have HOX := Lib.hid ho3; have HBX := Lib.hid (hb3 _ HBX.out); have hsx := HBX.out.size; have k0 := hg3.cell k0 (fun e => hgx (Option.some.inj e).symm); have k1 := hg3.cell k1 (fun e => hgx (Option.some.inj e).symm); have hlx := hg3.size; have hgx : g2 ≠ wr.heap.size := (by rcases hl3 with h | h; exact fun e => hgx ((Option.some.inj h).trans e); omega); clear ho3 hg3 hb3 hl3))
        go_wp2
        go_roundw
        case rel =>
          refine ⟨k + 1, by omega, by go_num, ?_, HBX⟩
          have e1 : dBytes (l.take (k + 1)) = dBytes (l.take k) ++ [1] ++ twoB frm ++ twoB n := by rw [HST.out]; simp
          rw [e1, bys_app, bys_app, bys_app]
          simp only [List.length_append, HM.out]
          exact HOX.out
        case measure => simp [intOf]; omega
      · obtain rfl : n = 0 := by omega
        have hcb : cpBytes ⟨(frm : Int), ((0 : Nat) : Int), bs⟩ = 2 :: (twoB bs.length ++ bs) := by rw [cpBytes, if_neg (by simp)]
        rw [hcb] at HST hle
        simp only [twoB, List.length_cons, List.length_append, List.length_nil] at hle
        have HM := Lib.hid hm
        rw [hm] at hown5
        have hng : (Value.slice A5 m c5).ownBlock ≠ some wr.heap.size := fun e => by have := (hown5 _ e).2; omega
        have HNG := Lib.hid hng
        have hO1 := HO.out.alloc (.cells #[.int .i64 frm, .int .i64 (0 : Nat), .slice A3 bs.length c3] 93)
        have HO1 := Lib.hid hO1
        have hs1 : w.heap.size ≤ (wr.alloc (.cells #[.int .i64 frm, .int .i64 (0 : Nat), .slice A3 bs.length c3] 93)).heap.size := by simp; omega
        have HB1 := Lib.hid (HB.out.alloc hwsz (.cells #[.int .i64 frm, .int .i64 (0 : Nat), .slice A3 bs.length c3] 93))
        clear hm hcb hng hown5 hO1
        have hkb := Blk.new wr 93 [.int .i64 frm, .int .i64 (0 : Nat), .slice A3 bs.length c3]
        have k0 : _ = some (Value.slice A3 bs.length c3) := hkb.cell 2
        have hwcs : wr.heap.size < (wr.alloc (.cells #[.int .i64 frm, .int .i64 (0 : Nat), .slice A3 bs.length c3] 93)).heap.size := by simp
        clear hkb
        have HVBX : Hid (∀ w2, Below w.heap.size w w2 → (Rp.sl Rp.u8).ok w2 (· < w.heap.size) [.slice A3 bs.length c3] bs) := fun w2 h => Rp.keep _ HVB.out (same_both HB.out h) (fun _ h => h)
        go_wp2
        rw [show (Value.int .i64 0) = .int .i64 ((0 : Nat) : Int) from rfl]
        generalize wr.alloc (.cells #[.int .i64 frm, .int .i64 (0 : Nat), .slice A3 bs.length c3] 93) = wc at *
        go_region_held3 (fun w' => w'.cell? ⟨wr.heap.size, 2, none⟩ = some (.slice A3 bs.length c3)) (first | go_keep | exact k0) (first
          | (refine step_app_new (w := wc) (by rfl) (.tmp 24) (.tmp 25) 22 (by rfl) 5 (.int .u8 0) 1 1 Try.underlying22 uint8_info rfl (by decide) (m := 1) [.int .u8 2] 1 (by rfl) HO1.out hs1 (by rfl) (by rfl) (by rfl) (by decide) (by simp [Value.oneCell']) (by unfold maxLen; omega) (by omega) ?_; intro g1 cc1 w1 HOX HG1 HB2 HL1; have HBX := Lib.hid (HB2.out _ HB1.out); have hsx := HBX.out.size; have k0 := HG1.out.cell k0 (fun e => HNG.out e.symm); have hlx := HG1.out.size; have hgx : g1 ≠ wr.heap.size := (by rcases HL1.out with h | h; (intro e; exact HNG.out (by rw [h, e])); omega); clear HG1 HB2 HL1)
          | (refine step_app_any (by rfl) (R := Rp.u8) (by rfl) (.tmp 30) (.tmp 32) 22 (by rfl) 5 (.int .u8 0) 1 Try.underlying22 uint8_info rfl (by rfl) HOX.out hsx (fun b => .int .u8 b.toNat) (by rfl) (HVBX.out _ HBX.out) u8_one (by unfold maxLen; omega) (by omega) ?_; intro A9 c9 w9 HOX HG9 HB9 HL9; have HBX := Lib.hid (HB9.out _ HBX.out); have k0 := HG9.out.cell k0 (fun e => hgx (Option.some.inj e).symm))
          | (go_at_call 93; refine (putB_any w.heap.size _ _ _ _ _ HOX.out hsx (by omega) (by omega)).mono ?_; rintro e w2 ⟨g2, cc2, rfl, ho3, hg3, hb3, hl3⟩; have HOX := Lib.hid ho3; have HBX := Lib.hid (hb3 _ HBX.out); have hsx := HBX.out.size; have k0 := hg3.cell k0 (fun e => hgx (Option.some.inj e).symm); have hlx := hg3.size; have hgx : g2 ≠ wr.heap.size := (by rcases hl3 with h | h; exact fun e => hgx ((Option.some.inj h).trans e); omega); clear ho3 hg3 hb3 hl3))
        go_wp2
        go_roundw
        case rel =>
          refine ⟨k + 1, by omega, by go_num, ?_, HBX⟩
          have e1 : dBytes (l.take (k + 1)) = dBytes (l.take k) ++ [2] ++ twoB bs.length ++ bs := by rw [HST.out]; simp
          rw [e1, bys_app, bys_app, bys_app]
          simp only [List.length_append, HM.out]
          exact HOX.out
        case measure => simp [intOf]; omega
    · obtain rfl : k = l.length := by omega
      rw [List.take_length] at HO
      go_wp2
      go_ret
      exact ⟨_, rfl, HO.out, HB.out⟩
end Go.Proofs.Ytofahmdjhpbecaa
