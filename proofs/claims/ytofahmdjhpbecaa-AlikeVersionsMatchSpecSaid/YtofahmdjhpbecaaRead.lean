/-
  'slices.Clone' of bytes, 'get', 'readCopy' of package alike.
-/
import Derived.Test.YtofahmdjhpbecaaProg
import Derived.Test.YtofahmdjhpbecaaDBTop
import Derived.Laws.BitsAllLaws
namespace Go.Proofs.Ytofahmdjhpbecaa
open Go.RowKit
set_option linter.unusedVariables false
set_option linter.unusedSimpArgs false

def ClonePost (bs : List UInt8) (w : World) (e : Ending) (w' : World) : Prop :=
  ∃ v, e = .returned v ∧ w'.ownsRow w.heap.size 5 1 v bs.length (bys bs) ∧ Below w.heap.size w w'
theorem clone_read {bs : List UInt8} {w w' : World} {e : Ending} (h : ClonePost bs w e w') : ∃ v, e = .returned v ∧ (Rp.sl Rp.u8).ok w' (fun k => w.heap.size ≤ k ∧ k < w'.heap.size) [v] bs ∧ Below w.heap.size w w' := by
  obtain ⟨v, rfl, h1, h2⟩ := h
  exact ⟨v, rfl, Rp.u8_own h1 (fun g hg => h1.lt g hg), h2⟩
set_option maxRecDepth 100000 in
set_option maxHeartbeats 400000 in
theorem clone_any (v : Value) (bs : List UInt8) (w : World) (h : (Rp.sl Rp.u8).ok w (· < w.heap.size) [v] bs) (hm : bs.length ≤ 1000000) :
    Calls Try.prog 84 #[v] w (ClonePost bs w) := by
  obtain ⟨A, c, rfl, hl, hc, h0⟩ := Rp.sl_open h
  have H := Lib.hid h
  clear h
  cases A with
  | none =>
    have hc0 := h0 rfl
    have hb : bs = [] := List.eq_nil_of_length_eq_zero (by omega)
    subst hb
    subst hc0
    have hq : ∀ W : World, (binOp .eql 22 (.slice none 0 0) (.slice none 0 0)).run Try.prog W = .ok (.bool true) W := fun W => Lib.run_eql_slice_nil (P := Try.prog) W 22 5 none 0 0 0 0 Try.underlying22
    go_enter Try.func84, Try.ntmps84
    go_wp2
    go_ret
    exact ⟨_, rfl, World.ownsRow_nil _ _ _ _, Below.refl _ _⟩
  | some ad =>
    have hq : ∀ W : World, (binOp .eql 22 (.slice (some ad) bs.length c) (.slice none 0 0)).run Try.prog W = .ok (.bool false) W := fun W => Lib.run_eql_slice_nil (P := Try.prog) W 22 5 (some ad) bs.length c 0 0 Try.underlying22
    have ho := own_lit (w := w) (B := w.heap.size) (Nat.le_refl _) 5 [] (by simp [maxLen])
    have HO := Lib.hid ho
    have hal := (Below.refl w.heap.size w).alloc (Nat.le_refl _) (.cells #[] 5)
    have HAL := Lib.hid hal
    have HR := Lib.hid (Rp.below _ H.out hal)
    clear ho hal
    go_enter Try.func84, Try.ntmps84
    go_wp2_with (at_builtin; refine app_any rfl (R := Rp.u8) rfl (.tmp 5) (.tmp 6) 22 rfl 5 (.int .u8 0) 1 Try.underlying22 uint8_info rfl (by rfl) HO.out (by simp) (fun b => .int .u8 b.toNat) (by rfl) HR.out u8_one (by unfold maxLen; simp; omega) (by simp; omega) ?_; intro A9 c9 w9 HO9 HG9 HB9 HL9)
    go_ret
    have ho := HO9.out
    simp only [List.length_nil, Nat.zero_add, List.nil_append] at ho
    exact ⟨_, rfl, ho, HB9.out _ HAL.out⟩

theorem add_succ' (a : Addr) (i : Nat) : a.add (i + 1) = ⟨a.block, a.off + (i + 1), none⟩ := by unfold Addr.add; rw [if_neg (by omega)]
def getB (bs : List UInt8) (i : Nat) : Nat := (bs.getD i 0).toNat * 256 + (bs.getD (i + 1) 0).toNat
theorem getB_at {bs : List UInt8} {i : Nat} (h : i + 1 < bs.length) : getB bs i = bs[i].toNat * 256 + bs[i + 1].toNat := by
  unfold getB
  rw [List.getD_eq_getElem?_getD, List.getD_eq_getElem?_getD, List.getElem?_eq_getElem (by omega), List.getElem?_eq_getElem h]; rfl
theorem getB_lt (bs : List UInt8) (i : Nat) : getB bs i < 65536 := by
  unfold getB
  have h1 := (bs.getD i 0).toNat_lt
  have h2 := (bs.getD (i + 1) 0).toNat_lt
  omega
theorem or_i64_nat (a b : Nat) (ha : a < 9223372036854775808) (hb : b < 9223372036854775808) : bits BinOp.or IntKind.i64 (a : Int) (b : Int) = ((a ||| b : Nat) : Int) := by
  have hx : a ||| b < 2 ^ 63 := Nat.or_lt_two_pow (by omega) (by omega)
  show IntKind.i64.wrap ((BitVec.ofInt 64 (a : Int) ||| BitVec.ofInt 64 (b : Int)).toNat : Int) = _
  rw [BitVec.toNat_or, BitVec.ofInt_natCast, BitVec.ofInt_natCast, BitVec.toNat_ofNat, BitVec.toNat_ofNat, Nat.mod_eq_of_lt (by omega), Nat.mod_eq_of_lt (by omega)]
  exact IntWalk.i64_in _ (by omega)
theorem get_val (a b : Nat) (ha : a < 256) (hb : b < 256) : bits BinOp.or IntKind.i64 (wrap64 (wrap64 (a : Int) * 256)) (wrap64 (b : Int)) = ((a * 256 + b : Nat) : Int) := by
  rw [IntWalk.wrap64_in (a : Int) ⟨by omega, by omega⟩, IntWalk.wrap64_in (b : Int) ⟨by omega, by omega⟩, IntWalk.wrap64_in _ ⟨by omega, by omega⟩]
  have h := Nat.two_pow_add_eq_or_of_lt (i := 8) (b := b) (by omega) a
  rw [show ((a : Int) * 256) = ((a * 256 : Nat) : Int) by omega, or_i64_nat _ _ (by omega) (by omega)]
  rw [show 2 ^ 8 * a = a * 256 by omega] at h
  rw [h]
set_option maxRecDepth 100000 in
set_option maxHeartbeats 400000 in
theorem get_any (v : Value) (bs : List UInt8) (i : Nat) (w : World) (S : Nat → Prop) (h : (Rp.sl Rp.u8).ok w S [v] bs) (hi : i + 1 < bs.length) (hm : bs.length ≤ 1000000) :
    Calls Try.prog 95 #[v, .int .i64 i] w fun e w' => e = .returned (.int .i64 (getB bs i : Nat)) ∧ Drawn w w' := by
  have H := Lib.hid h
  obtain ⟨A, c, rfl, hl, hc, _⟩ := Rp.sl_open h
  obtain ⟨ad, u1, rfl, _, hu1, hc1⟩ := Rp.sl_at1 rfl h (k := i) (by omega)
  obtain ⟨ad2, u2, e2, _, hu2, hc2⟩ := Rp.sl_at1 rfl h (k := i + 1) (by omega)
  injection e2 with e2
  subst e2
  injection hu1 with hu1
  injection hu2 with hu2
  subst hu1 hu2
  clear h
  rw [add_succ'] at hc2
  have i1 : (i : Int) < (bs.length : Int) := by omega
  have i2 : (i : Int) + 1 < (bs.length : Int) := by omega
  have i3 : (0 : Int) ≤ (i : Int) + 1 := by omega
  have i4 : ((i : Int) + 1).toNat = i + 1 := by omega
  have s1 : IntKind.i64.wrap ((i : Int) + 1) = (i : Int) + 1 := IntWalk.i64_in _ (by omega)
  go_enter Try.func95, Try.ntmps95
  go_wp2
  go_quiet (fail)
  rw [get_val _ _ (UInt8.toNat_lt _) (UInt8.toNat_lt _)]
  go_wp2
  go_ret
  exact ⟨by rw [getB_at hi]; rfl, ⟨nq, rfl⟩⟩

/-- What stands at the head of bytes: a piece and how many bytes it has; too few bytes; something else. -/
inductive Rc where
  | ok (c : Cp) (n : Nat)
  | short
  | bad
def rcL (s : List UInt8) : Rc :=
  if s.getD 0 0 = 1 then (if s.length < 5 then .short else .ok ⟨getB s 1, getB s 3, []⟩ 5)
  else if s.getD 0 0 = 2 then (if s.length < 3 then .short else if s.length < 3 + getB s 1 then .short else .ok ⟨0, 0, (s.drop 3).take (getB s 1)⟩ (3 + getB s 1))
  else .bad
theorem getB_drop (bs : List UInt8) (at_ i : Nat) : getB (bs.drop at_) i = getB bs (at_ + i) := by
  unfold getB
  simp only [List.getD_eq_getElem?_getD, List.getElem?_drop, Nat.add_assoc]
def RcPost (bs : List UInt8) (at_ : Nat) (w : World) (e : Ending) (w' : World) : Prop :=
  Below w.heap.size w w' ∧ match rcL (bs.drop at_) with
    | .ok c n => ∃ vb, e = .returned (.tuple #[.agg #[.int .i64 c.frm, .int .i64 c.n, vb], .int .i64 n, .bool true]) ∧ (Rp.sl Rp.u8).ok w' (fun k => w.heap.size ≤ k ∧ k < w'.heap.size) [vb] c.bs
    | .short => e = .returned (.tuple #[.agg #[.int .i64 0, .int .i64 0, .slice none 0 0], .int .i64 bs.length, .bool false])
    | .bad => e = .returned (.tuple #[.agg #[.int .i64 0, .int .i64 0, .slice none 0 0], .int .i64 at_, .bool false])
theorem rcPost_ok {bs : List UInt8} {at_ n : Nat} {c : Cp} {w w' : World} {vb : Value} (h : rcL (bs.drop at_) = .ok c n) (hb : Below w.heap.size w w') (hv : (Rp.sl Rp.u8).ok w' (fun k => w.heap.size ≤ k ∧ k < w'.heap.size) [vb] c.bs) : RcPost bs at_ w (.returned (.tuple #[.agg #[.int .i64 c.frm, .int .i64 c.n, vb], .int .i64 n, .bool true])) w' := by
  refine ⟨hb, ?_⟩; rw [h]; exact ⟨vb, rfl, hv⟩
theorem rcPost_short {bs : List UInt8} {at_ : Nat} {w w' : World} (h : rcL (bs.drop at_) = .short) (hb : Below w.heap.size w w') : RcPost bs at_ w (.returned (.tuple #[.agg #[.int .i64 0, .int .i64 0, .slice none 0 0], .int .i64 bs.length, .bool false])) w' := by
  refine ⟨hb, ?_⟩; rw [h]
theorem rcPost_bad {bs : List UInt8} {at_ : Nat} {w w' : World} (h : rcL (bs.drop at_) = .bad) (hb : Below w.heap.size w w') : RcPost bs at_ w (.returned (.tuple #[.agg #[.int .i64 0, .int .i64 0, .slice none 0 0], .int .i64 at_, .bool false])) w' := by
  refine ⟨hb, ?_⟩; rw [h]
section
variable {bs : List UInt8} {p : Nat}
theorem rc_head (h : p < bs.length) : (bs.drop p).getD 0 0 = bs[p] := by rw [List.getD_eq_getElem?_getD, List.getElem?_drop, List.getElem?_eq_getElem (by omega)]; simp
theorem rc_one_short (h : p < bs.length) (h1 : bs[p] = 1) (h2 : bs.length < p + 5) : rcL (bs.drop p) = .short := by
  rw [rcL, rc_head h, if_pos h1, if_pos (by rw [List.length_drop]; omega)]
theorem rc_one_ok (h : p < bs.length) (h1 : bs[p] = 1) (h2 : p + 5 ≤ bs.length) : rcL (bs.drop p) = .ok ⟨getB bs (p + 1), getB bs (p + 3), []⟩ 5 := by
  rw [rcL, rc_head h, if_pos h1, if_neg (by rw [List.length_drop]; omega), getB_drop, getB_drop]
theorem rc_two_short (h : p < bs.length) (h1 : bs[p] = 2) (h2 : bs.length < p + 3) : rcL (bs.drop p) = .short := by
  rw [rcL, rc_head h, if_neg (by rw [h1]; decide), if_pos h1, if_pos (by rw [List.length_drop]; omega)]
theorem rc_two_less (h : p < bs.length) (h1 : bs[p] = 2) (h2 : p + 3 ≤ bs.length) (h3 : bs.length < p + 3 + getB bs (p + 1)) : rcL (bs.drop p) = .short := by
  rw [rcL, rc_head h, if_neg (by rw [h1]; decide), if_pos h1, if_neg (by rw [List.length_drop]; omega), getB_drop, if_pos (by rw [List.length_drop]; omega)]
theorem rc_two_ok (h : p < bs.length) (h1 : bs[p] = 2) (h2 : p + 3 + getB bs (p + 1) ≤ bs.length) : rcL (bs.drop p) = .ok ⟨0, 0, (bs.drop (p + 3)).take (getB bs (p + 1))⟩ (3 + getB bs (p + 1)) := by
  rw [rcL, rc_head h, if_neg (by rw [h1]; decide), if_pos h1, if_neg (by rw [List.length_drop]; omega), getB_drop, if_neg (by rw [List.length_drop]; omega), List.drop_drop]
theorem rc_bad (h : p < bs.length) (h1 : bs[p] ≠ 1) (h2 : bs[p] ≠ 2) : rcL (bs.drop p) = .bad := by
  rw [rcL, rc_head h, if_neg h1, if_neg h2]
end
theorem u8_int {a : UInt8} {n : Nat} (hn : n < 256) (h : a = UInt8.ofNat n) : ((a.toNat : Int) == (n : Int)) = true := by
  rw [h, beq_iff_eq, UInt8.toNat_ofNat', Nat.mod_eq_of_lt (by omega)]
theorem u8_int_ne {a : UInt8} {n : Nat} (h : a ≠ UInt8.ofNat n) : ((a.toNat : Int) == (n : Int)) = false := by
  rw [beq_eq_false_iff_ne]
  intro e
  apply h
  have : a.toNat = n := by omega
  rw [← this]; simp

theorem drewN_size (w : World) (n : Nat) : (w.drewN n).heap.size = w.heap.size := rfl
theorem set3_same (w : World) (g N : Nat) (a b c : Value) : Same (fun k => g < k ∧ k < N) w (((w.setCell ⟨g, 0, none⟩ a).setCell ⟨g, 1, none⟩ b).setCell ⟨g, 2, none⟩ c) := fun k hk => by
  rw [heap_setCell_other _ _ _ _ (by show k ≠ g; omega), heap_setCell_other _ _ _ _ (by show k ≠ g; omega), heap_setCell_other _ _ _ _ (by show k ≠ g; omega)]
theorem fresh_gt {w : World} {o : Obj} {n k : Nat} (h : ((w.alloc o).drewN n).heap.size ≤ k) : w.heap.size < k := by
  have : (w.alloc o).heap.size ≤ k := h
  rw [World.size_alloc] at this; omega
set_option maxRecDepth 100000 in
set_option maxHeartbeats 2000000 in
theorem readCopy_any (v : Value) (bs : List UInt8) (p : Nat) (w : World) (h : (Rp.sl Rp.u8).ok w (· < w.heap.size) [v] bs) (hp : p < bs.length) (hm : bs.length ≤ 20000) :
    Calls Try.prog 83 #[v, .int .i64 p] w (RcPost bs p w) := by
  have H := Lib.hid h
  obtain ⟨A, c, rfl, hl, hc, _⟩ := Rp.sl_open h
  unfold maxLen at hc
  obtain ⟨ad, u1, rfl, _, hu1, hc1⟩ := Rp.sl_at1 rfl h (k := p) hp
  injection hu1 with hu1
  subst hu1
  have hc1' : (w.alloc (.cells #[.int .i64 0, .int .i64 0, .slice none 0 0] 93)).cell? (ad.add p) = some (.int .u8 bs[p].toNat) := ((Below.heap_alloc w _ _ (World.block_lt_of_cell? w _ hc1)) |> fun e => (World.cell?_of_block e).trans hc1)
  have hal := (Below.refl w.heap.size w).alloc (Nat.le_refl _) (.cells #[.int .i64 0, .int .i64 0, .slice none 0 0] 93)
  have HR := Lib.hid (Rp.below _ H.out hal)
  have HK := Lib.hid (Blk.new w 93 [.int .i64 0, .int .i64 0, .slice none 0 0])
  have HAL := Lib.hid hal
  have hpi : (p : Int) < (bs.length : Int) := by omega
  clear h hal hc1
  by_cases h1 : bs[p] = 1
  · have b1 : ((bs[p].toNat : Int) == 1) = true := u8_int (n := 1) (by decide) h1
    by_cases h5 : bs.length < p + 5
    · have HS := Lib.hid (rc_one_short hp h1 h5)
      have h5' : (bs.length : Int) < (p : Int) + 5 := by omega
      clear h1 h5
      go_enter Try.func83, Try.ntmps83
      go_wp2
      exact bodyPost_ret (v := .tuple #[.agg #[.int .i64 0, .int .i64 0, .slice none 0 0], .int .i64 bs.length, .bool false]) (by simp [results, Try.results83, go_sem]) rfl (rcPost_short HS.out HAL.out)
    · have HS := Lib.hid (rc_one_ok hp h1 (by omega))
      have h5' : (p : Int) + 5 ≤ (bs.length : Int) := by omega
      clear h1
      go_enter Try.func83, Try.ntmps83
      go_wp2_with fail
      rw [show ((p : Int) + 1) = ((p + 1 : Nat) : Int) by omega]
      refine (get_any _ bs (p + 1) _ _ HR.out (by omega) (by omega)).mono ?_
      rintro e w1 ⟨rfl, n1, rfl⟩
      go_wp2_with fail
      rw [show ((p : Int) + 3) = ((p + 3 : Nat) : Int) by omega]
      refine (get_any _ bs (p + 3) _ _ (Rp.drewN _ HR.out n1) (by omega) (by omega)).mono ?_
      rintro e w1 ⟨rfl, n2, rfl⟩
      have g1 := getB_lt bs (p + 1)
      have g2 := getB_lt bs (p + 3)
      generalize getB bs (p + 1) = x1 at *
      generalize getB bs (p + 3) = x2 at *
      go_wp2
      exact bodyPost_ret (v := .tuple #[.agg #[.int .i64 x1, .int .i64 x2, .slice none 0 0], .int .i64 (5 : Nat), .bool true]) (by simp [results, Try.results83, go_sem]) rfl
        (rcPost_ok HS.out ((((below_drewN HAL.out _).setCell (Nat.le_refl _) _).setCell (Nat.le_refl _) _).setCell (Nat.le_refl _) _) (Rp.sl_nil _ _ _))
  · have b1 : ((bs[p].toNat : Int) == 1) = false := u8_int_ne (n := 1) h1
    by_cases h2 : bs[p] = 2
    · have b2 : ((bs[p].toNat : Int) == 2) = true := u8_int (n := 2) (by decide) h2
      by_cases h3 : bs.length < p + 3
      · have HS := Lib.hid (rc_two_short hp h2 h3)
        have h5' : (bs.length : Int) < (p : Int) + 3 := by omega
        clear h1 h2 h3
        go_enter Try.func83, Try.ntmps83
        go_wp2
        exact bodyPost_ret (v := .tuple #[.agg #[.int .i64 0, .int .i64 0, .slice none 0 0], .int .i64 bs.length, .bool false]) (by simp [results, Try.results83, go_sem]) rfl (rcPost_short HS.out HAL.out)
      · have h5' : (p : Int) + 3 ≤ (bs.length : Int) := by omega
        by_cases h4 : bs.length < p + 3 + getB bs (p + 1)
        · have HS := Lib.hid (rc_two_less hp h2 (by omega) h4)
          clear h1 h2
          go_enter Try.func83, Try.ntmps83
          go_wp2_with fail
          rw [show ((p : Int) + 1) = ((p + 1 : Nat) : Int) by omega]
          refine (get_any _ bs (p + 1) _ _ HR.out (by omega) (by omega)).mono ?_
          rintro e w1 ⟨rfl, n1, rfl⟩
          have g1 := getB_lt bs (p + 1)
          generalize getB bs (p + 1) = x1 at *
          go_wp2
          exact bodyPost_ret (v := .tuple #[.agg #[.int .i64 0, .int .i64 0, .slice none 0 0], .int .i64 bs.length, .bool false]) (by simp [results, Try.results83, go_sem]) rfl (rcPost_short HS.out ((((below_drewN HAL.out _).setCell (Nat.le_refl _) _).setCell (Nat.le_refl _) _).setCell (Nat.le_refl _) _))
        · have HS := Lib.hid (rc_two_ok hp h2 (by omega))
          clear h1 h2
          go_enter Try.func83, Try.ntmps83
          go_wp2_with fail
          rw [show ((p : Int) + 1) = ((p + 1 : Nat) : Int) by omega]
          refine (get_any _ bs (p + 1) _ _ HR.out (by omega) (by omega)).mono ?_
          rintro e w1 ⟨rfl, n1, rfl⟩
          have g1 := getB_lt bs (p + 1)
          go_wp2_with fail
          rw [show ((p : Int) + 1) = ((p + 1 : Nat) : Int) by omega]
          refine (get_any _ bs (p + 1) _ _ (Rp.drewN _ HR.out n1) (by omega) (by omega)).mono ?_
          rintro e w1 ⟨rfl, n2, rfl⟩
          generalize getB bs (p + 1) = x1 at *
          by_cases hcp : c = p + 3
          · obtain rfl : x1 = 0 := by omega
            subst hcp
            have hcut : (Rp.sl Rp.u8).ok ((w.alloc (.cells #[.int .i64 0, .int .i64 0, .slice none 0 0] 93)).drewN (n1 + n2)) (· < ((w.alloc (.cells #[.int .i64 0, .int .i64 0, .slice none 0 0] 93)).drewN (n1 + n2)).heap.size) [.slice (some ad) 0 0] ((bs.drop (p + 3)).take 0) :=
              ⟨some ad, 0, by simp, by simp, by unfold maxLen; omega, by simp, fun k hk => absurd hk (by simp)⟩
            have HCUT := Lib.hid hcut
            clear hcut
            go_wp2_with fail
            refine (clone_any _ _ _ HCUT.out (by simp)).mono ?_
            rintro e w3 hq
            obtain ⟨vb, rfl, hv, hb3⟩ := clone_read hq
            have hk3 := (HK.out.same (w' := (w.alloc (.cells #[.int .i64 0, .int .i64 0, .slice none 0 0] 93)).drewN (n1 + n2)) (S := fun _ => True) (fun _ _ => rfl) trivial).same (same_below hb3) (by rw [drewN_size, World.size_alloc]; omega)
            have c0 := hk3.cell 0
            have c1 := hk3.cell 1
            have c2 := hk3.cell 2
            have f0 := hk3.frozen 0
            have f1 := hk3.frozen 1
            have f2 := hk3.frozen 2
            have HB3 := Lib.hid (ext_trans (below_drewN HAL.out (n1 + n2)) hb3)
            have hf : w.heap.size < w3.heap.size := hk3.lt
            obtain ⟨A9, c9, rfl, _⟩ := Rp.sl_open hv
            have HV : Hid (∀ w', Same (fun k => w.heap.size < k ∧ k < w3.heap.size) w3 w' → w3.heap.size ≤ w'.heap.size → (Rp.sl Rp.u8).ok w' (fun k => w.heap.size ≤ k ∧ k < w'.heap.size) [.slice A9 (List.take 0 (List.drop (p + 3) bs)).length c9] ((bs.drop (p + 3)).take 0)) := fun w' h1 h2 =>
              Rp.keep _ (Rp.sub _ hv (T := fun k => w.heap.size < k ∧ k < w3.heap.size) (fun k hk => ⟨fresh_gt hk.1, hk.2⟩)) h1 (fun k hk => ⟨by omega, by omega⟩)
            clear hq hv hb3 hk3
            go_wp2
            exact bodyPost_ret (v := .tuple #[.agg #[.int .i64 (0 : Nat), .int .i64 (0 : Nat), .slice A9 (List.take 0 (List.drop (p + 3) bs)).length c9], .int .i64 (3 + 0 : Nat), .bool true]) (by simp [results, Try.results83, go_sem, c0, c1, c2]) rfl
              (rcPost_ok HS.out (((HB3.out.setCell (Nat.le_refl _) _).setCell (Nat.le_refl _) _).setCell (Nat.le_refl _) _) (HV.out _ (set3_same _ _ _ _ _ _) (by simp)))
          · have hcut := Rp.sl_part1 rfl (Rp.drewN _ (Rp.sub _ HR.out (T := fun k => k < (w.alloc (.cells #[.int .i64 0, .int .i64 0, .slice none 0 0] 93)).heap.size) (fun k hk => by simp; omega)) (n1 + n2)) (lo := p + 3) (m := x1) (by omega)
            rw [if_neg hcp, Option.map_some, add_succ'] at hcut
            have HCUT := Lib.hid hcut
            clear hcut
            go_wp2_with fail
            refine (clone_any _ _ _ HCUT.out (by simp; omega)).mono ?_
            rintro e w3 hq
            obtain ⟨vb, rfl, hv, hb3⟩ := clone_read hq
            have hk3 := (HK.out.same (w' := (w.alloc (.cells #[.int .i64 0, .int .i64 0, .slice none 0 0] 93)).drewN (n1 + n2)) (S := fun _ => True) (fun _ _ => rfl) trivial).same (same_below hb3) (by rw [drewN_size, World.size_alloc]; omega)
            have c0 := hk3.cell 0
            have c1 := hk3.cell 1
            have c2 := hk3.cell 2
            have f0 := hk3.frozen 0
            have f1 := hk3.frozen 1
            have f2 := hk3.frozen 2
            have HB3 := Lib.hid (ext_trans (below_drewN HAL.out (n1 + n2)) hb3)
            have hf : w.heap.size < w3.heap.size := hk3.lt
            obtain ⟨A9, c9, rfl, _⟩ := Rp.sl_open hv
            have HV : Hid (∀ w', Same (fun k => w.heap.size < k ∧ k < w3.heap.size) w3 w' → w3.heap.size ≤ w'.heap.size → (Rp.sl Rp.u8).ok w' (fun k => w.heap.size ≤ k ∧ k < w'.heap.size) [.slice A9 (List.take x1 (List.drop (p + 3) bs)).length c9] ((bs.drop (p + 3)).take x1)) := fun w' h1 h2 =>
              Rp.keep _ (Rp.sub _ hv (T := fun k => w.heap.size < k ∧ k < w3.heap.size) (fun k hk => ⟨fresh_gt hk.1, hk.2⟩)) h1 (fun k hk => ⟨by omega, by omega⟩)
            clear hq hv hb3 hk3
            go_wp2
            exact bodyPost_ret (v := .tuple #[.agg #[.int .i64 (0 : Nat), .int .i64 (0 : Nat), .slice A9 (List.take x1 (List.drop (p + 3) bs)).length c9], .int .i64 (3 + x1 : Nat), .bool true]) (by simp [results, Try.results83, go_sem, c0, c1, c2]) rfl
              (rcPost_ok HS.out (((HB3.out.setCell (Nat.le_refl _) _).setCell (Nat.le_refl _) _).setCell (Nat.le_refl _) _) (HV.out _ (set3_same _ _ _ _ _ _) (by simp)))
    · have b2 : ((bs[p].toNat : Int) == 2) = false := u8_int_ne (n := 2) h2
      have HS := Lib.hid (rc_bad hp h1 h2)
      clear h1 h2
      go_enter Try.func83, Try.ntmps83
      go_wp2
      exact bodyPost_ret (v := .tuple #[.agg #[.int .i64 0, .int .i64 0, .slice none 0 0], .int .i64 p, .bool false]) (by simp [results, Try.results83, go_sem]) rfl (rcPost_bad HS.out HAL.out)
end Go.Proofs.Ytofahmdjhpbecaa
