/-
  'Delta' of both packages: how bytes are put together of pieces of a base.
-/
import Derived.Test.YtofahmdjhpbecaaProg
import Derived.Test.YtofahmdjhpbecaaNest
namespace Go.Proofs.Ytofahmdjhpbecaa
open Go.RowKit
set_option linter.unusedVariables false
set_option linter.unusedSimpArgs false

/-- How many bytes are the same from the beginning on. -/
def lcp : List UInt8 → List UInt8 → Nat
  | x :: xs, y :: ys => if x = y then lcp xs ys + 1 else 0
  | _, _ => 0
theorem lcp_le_left : ∀ a b : List UInt8, lcp a b ≤ a.length
  | [], b => by cases b <;> simp [lcp]
  | x :: xs, [] => by simp [lcp]
  | x :: xs, y :: ys => by
    unfold lcp
    split
    · have := lcp_le_left xs ys; simp; omega
    · omega
theorem lcp_le_right : ∀ a b : List UInt8, lcp a b ≤ b.length
  | [], b => by cases b <;> simp [lcp]
  | x :: xs, [] => by simp [lcp]
  | x :: xs, y :: ys => by
    unfold lcp
    split
    · have := lcp_le_right xs ys; simp; omega
    · omega
/-- 'lcp' is n just if n bytes are the same and no more can be. -/
theorem lcp_step : ∀ (a b : List UInt8) (n : Nat), n ≤ lcp a b → (n < lcp a b ↔ ∃ (h1 : n < a.length) (h2 : n < b.length), a[n] = b[n])
  | [], b, n, h => by
    have : lcp [] b = 0 := by cases b <;> rfl
    rw [this]; simp
  | x :: xs, [], n, h => by simp [lcp]
  | x :: xs, y :: ys, n, h => by
    unfold lcp at h ⊢
    by_cases hxy : x = y
    · rw [if_pos hxy] at h ⊢
      cases n with
      | zero => simp [hxy]
      | succ m =>
        have ih := lcp_step xs ys m (by omega)
        simp only [Nat.add_lt_add_iff_right, List.length_cons, List.getElem_cons_succ]
        exact ih
    · rw [if_neg hxy] at h ⊢
      have : n = 0 := by omega
      subst this
      simp [hxy]

def longK (base b : List UInt8) : Nat → Nat × Nat
  | 0 => (0, 0)
  | i + 1 => if (longK base b i).2 < lcp (base.drop i) b then (i, lcp (base.drop i) b) else longK base b i
def longest (base b : List UInt8) : Nat × Nat := longK base b base.length
theorem longK_fst (base b : List UInt8) : ∀ i, (longK base b i).1 ≤ i ∧ (longK base b i).2 ≤ b.length
  | 0 => by simp [longK]
  | i + 1 => by
    have h := longK_fst base b i
    unfold longK
    split
    · exact ⟨by simp, lcp_le_right _ _⟩
    · omega

structure Cp where
  frm : Int
  n : Int
  bs : List UInt8
deriving DecidableEq
def cpRp : Rp Cp := (Rp.pair (Rp.int .i64) (Rp.pair (Rp.int .i64) (Rp.sl Rp.u8))).via fun c => (c.frm, c.n, c.bs)
theorem cp_open {w : World} {S : Nat → Prop} {us : List Value} {c : Cp} (h : cpRp.ok w S us c) : ∃ v, us = [.int .i64 c.frm, .int .i64 c.n, v] ∧ (Rp.sl Rp.u8).ok w S [v] c.bs ∧ (Lit.int .i64 c.frm).wf = true ∧ (Lit.int .i64 c.n).wf = true := by
  obtain ⟨a, b, rfl, ⟨rfl, h1⟩, d, e, rfl, ⟨rfl, h2⟩, h3⟩ := h
  have := (Rp.sl Rp.u8).len h3
  obtain ⟨v, rfl⟩ := List.length_eq_one_iff.1 this
  exact ⟨v, rfl, h3, h1, h2⟩
theorem cp_mk {w : World} {S : Nat → Prop} {c : Cp} {v : Value} (h1 : (Lit.int .i64 c.frm).wf = true) (h2 : (Lit.int .i64 c.n).wf = true) (h3 : (Rp.sl Rp.u8).ok w S [v] c.bs) : cpRp.ok w S [.int .i64 c.frm, .int .i64 c.n, v] c :=
  ⟨[_], [_, _], rfl, ⟨rfl, h1⟩, [_], [_], rfl, ⟨rfl, h2⟩, h3⟩

set_option maxRecDepth 100000 in
set_option maxHeartbeats 1000000 in
theorem longest_any (v1 v2 : Value) (base b : List UInt8) (w : World) (S T : Nat → Prop) (h1 : (Rp.sl Rp.u8).ok w S [v1] base) (h2 : (Rp.sl Rp.u8).ok w T [v2] b) (l1 : base.length ≤ 3000) (l2 : b.length ≤ 3000) :
    Calls Try.prog 88 #[v1, v2] w fun e w' => e = .returned (.tuple #[.int .i64 (longest base b).1, .int .i64 (longest base b).2]) ∧ Drawn w w' := by
  obtain ⟨A, c, rfl, hl1, hc1, _⟩ := Rp.sl_open h1
  obtain ⟨B, d, rfl, hl2, hc2, _⟩ := Rp.sl_open h2
  have H1 := Lib.hid h1
  have H2 := Lib.hid h2
  clear h1 h2
  go_enter Try.func88, Try.ntmps88
  go_wp2
  go_loopw [4, 5, 10] (fun f m i wr => ∃ k : Nat, k ≤ base.length ∧ i = .int .i64 k ∧ f = .int .i64 (longK base b k).1 ∧ m = .int .i64 (longK base b k).2 ∧ Hid (Drawn w wr)) (fun _ _ i _ => base.length - (intOf i).toNat)
  case atStart => exact ⟨0, by omega, rfl, rfl, rfl, Drawn.refl w⟩
  case round =>
    obtain ⟨k, hk, rfl, rfl, rfl, HW⟩ := hrel
    by_cases hlt : k < base.length
    · obtain ⟨wo, rfl⟩ : ∃ wo : World, wo = wr := ⟨_, rfl⟩
      have HL := Lib.hid (longK_fst base b k)
      generalize hp : longK base b k = p at *
      obtain ⟨p1, p2⟩ := p
      have HP := Lib.hid hp
      clear hp
      go_wp2
      go_loopw [7] (fun j wr => ∃ n : Nat, n ≤ lcp (base.drop k) b ∧ j = .int .i64 n ∧ Hid (Drawn w wr)) (fun j _ => b.length - (intOf j).toNat)
      case atStart => exact ⟨0, by omega, rfl, HW⟩
      case round =>
        obtain ⟨n, hn, rfl, HW2⟩ := hrel
        have hlb := lcp_le_right (base.drop k) b
        have hla := lcp_le_left (base.drop k) b
        have hst := lcp_step (base.drop k) b n hn
        rw [List.length_drop] at hla
        have fin : (¬ n < lcp (base.drop k) b) → Hid ((p2 < n → longK base b (k + 1) = (k, n)) ∧ (¬ p2 < n → longK base b (k + 1) = (p1, p2))) := fun hge => by
          have e : lcp (base.drop k) b = n := by omega
          have h1 := HP.out
          constructor
          · intro h
            rw [longK, h1, e, if_pos h]
          · intro h
            rw [longK, h1, e, if_neg h]
        have HFI := Lib.hid fin
        clear fin
        by_cases hnb : n < b.length
        · by_cases hna : k + n < base.length
          · obtain ⟨ad1, u1, rfl, _, hu1, hcell1⟩ := Rp.sl_at1 rfl (Rp.drawn _ H1.out HW2.out) hna
            obtain ⟨ad2, u2, rfl, _, hu2, hcell2⟩ := Rp.sl_at1 rfl (Rp.drawn _ H2.out HW2.out) hnb
            cases hu1; cases hu2
            have hst' : n < lcp (base.drop k) b ↔ base[k + n] = b[n] := by
              rw [hst]
              constructor
              · rintro ⟨h1, h2, h3⟩; simpa using h3
              · intro h; exact ⟨by rw [List.length_drop]; omega, hnb, by simpa using h⟩
            clear hst
            by_cases he : base[k + n] = b[n]
            · have hb : ((base[k + n].toNat : Int) == (b[n].toNat : Int)) = true := by simp [he]
              have hlt2 := hst'.2 he
              clear he hst'
              go_wp2
              have s1 : IntKind.i64.wrap ((k : Int) + n) = k + n := IntWalk.i64_in _ (by omega)
              have s2 : (0 : Int) ≤ (k : Int) + n := by omega
              have s3 : ((k : Int) + n).toNat = k + n := by omega
              have s4 : (k : Int) + n < base.length := by omega
              have s5 : (n : Int) < b.length := by omega
              go_quiet (fail)
              clear s1 s2 s3 s4 s5
              go_wp2
              go_roundw
              case rel => exact ⟨n + 1, by omega, by go_num, HW2.out.more _⟩
              case measure => simp [intOf]; omega
            · have hb : ((base[k + n].toNat : Int) == (b[n].toNat : Int)) = false := by
                simp only [beq_eq_false_iff_ne, ne_eq, Int.natCast_inj]; exact fun h => he (UInt8.toNat_inj.1 h)
              have HF := Lib.hid (HFI.out (fun h => he (hst'.1 h)))
              clear he hst'
              go_wp2
              have s1 : IntKind.i64.wrap ((k : Int) + n) = k + n := IntWalk.i64_in _ (by omega)
              have s2 : (0 : Int) ≤ (k : Int) + n := by omega
              have s3 : ((k : Int) + n).toNat = k + n := by omega
              have s4 : (k : Int) + n < base.length := by omega
              have s5 : (n : Int) < b.length := by omega
              go_quiet (fail)
              clear s1 s2 s3 s4 s5
              by_cases hp2 : p2 < n
              · have HQ := Lib.hid (HF.out.out.1 hp2)
                go_wp2
                go_roundw
                case rel => exact ⟨k + 1, by omega, by go_num, by rw [HQ.out], by rw [HQ.out], HW2.out.more _⟩
                case measure => simp [intOf]; omega
              · have HQ := Lib.hid (HF.out.out.2 hp2)
                go_wp2
                go_roundw
                case rel => exact ⟨k + 1, by omega, by go_num, by rw [HQ.out], by rw [HQ.out], HW2.out.more _⟩
                case measure => simp [intOf]; omega
          · have HF := Lib.hid (HFI.out (fun h => by obtain ⟨h1, _⟩ := hst.1 h; rw [List.length_drop] at h1; omega))
            clear hst
            go_wp2
            have s1 : IntKind.i64.wrap ((k : Int) + n) = k + n := IntWalk.i64_in _ (by omega)
            have s4 : decide ((k : Int) + n < base.length) = false := by simp; omega
            have s5 : (n : Int) < b.length := by omega
            go_quiet (fail)
            clear s1 s4 s5
            by_cases hp2 : p2 < n
            · have HQ := Lib.hid (HF.out.out.1 hp2)
              go_wp2
              go_roundw
              case rel => exact ⟨k + 1, by omega, by go_num, by rw [HQ.out], by rw [HQ.out], HW2.out.more _⟩
              case measure => simp [intOf]; omega
            · have HQ := Lib.hid (HF.out.out.2 hp2)
              go_wp2
              go_roundw
              case rel => exact ⟨k + 1, by omega, by go_num, by rw [HQ.out], by rw [HQ.out], HW2.out.more _⟩
              case measure => simp [intOf]; omega
        · have HF := Lib.hid (HFI.out (fun h => by omega))
          clear hst
          go_wp2
          have s5 : decide ((n : Int) < b.length) = false := by simp; omega
          go_quiet (fail)
          clear s5
          by_cases hp2 : p2 < n
          · have HQ := Lib.hid (HF.out.out.1 hp2)
            go_wp2
            go_roundw
            case rel => exact ⟨k + 1, by omega, by go_num, by rw [HQ.out], by rw [HQ.out], HW2.out.more _⟩
            case measure => simp [intOf]; omega
          · have HQ := Lib.hid (HF.out.out.2 hp2)
            go_wp2
            go_roundw
            case rel => exact ⟨k + 1, by omega, by go_num, by rw [HQ.out], by rw [HQ.out], HW2.out.more _⟩
            case measure => simp [intOf]; omega
    · have hke : k = base.length := by omega
      subst hke
      go_wp2
      go_ret2
      exact ⟨rfl, HW.out⟩
def addByte (out : List Cp) (x : UInt8) : List Cp :=
  match out.getLast? with
  | some c => if c.n = 0 then out.dropLast ++ [⟨c.frm, c.n, c.bs ++ [x]⟩] else out ++ [⟨0, 0, [x]⟩]
  | none => [⟨0, 0, [x]⟩]
theorem addByte_nil (x : UInt8) : addByte [] x = [⟨0, 0, [x]⟩] := rfl
theorem addByte_zero (out : List Cp) (c : Cp) (x : UInt8) (h : c.n = 0) : addByte (out ++ [c]) x = out ++ [⟨c.frm, c.n, c.bs ++ [x]⟩] := by simp [addByte, h]
theorem addByte_copy (out : List Cp) (c : Cp) (x : UInt8) (h : c.n ≠ 0) : addByte (out ++ [c]) x = out ++ [c] ++ [⟨0, 0, [x]⟩] := by simp [addByte, h]
/-- The pieces of the bytes that are left, behind those of what has been put together. -/
def deltaGo (base : List UInt8) (b : List UInt8) (out : List Cp) : List Cp :=
  match b with
  | [] => out
  | x :: t =>
    if h : 8 ≤ (longest base (x :: t)).2 then deltaGo base ((x :: t).drop (longest base (x :: t)).2) (out ++ [⟨(longest base (x :: t)).1, (longest base (x :: t)).2, []⟩])
    else deltaGo base t (addByte out x)
termination_by b.length
decreasing_by
  · simp only [List.length_drop, List.length_cons]; omega
  · simp
def deltaL (base b : List UInt8) : List Cp := deltaGo base b []
theorem deltaGo_copy {base b : List UInt8} {out : List Cp} (hb : b ≠ []) (h : 8 ≤ (longest base b).2) : deltaGo base b out = deltaGo base (b.drop (longest base b).2) (out ++ [⟨(longest base b).1, (longest base b).2, []⟩]) := by
  obtain ⟨x, t, rfl⟩ := List.exists_cons_of_ne_nil hb
  rw [deltaGo, dif_pos h]
theorem deltaGo_byte {base : List UInt8} {x : UInt8} {t : List UInt8} {out : List Cp} (h : ¬ 8 ≤ (longest base (x :: t)).2) : deltaGo base (x :: t) out = deltaGo base t (addByte out x) := by
  rw [deltaGo, dif_neg h]
theorem longest_le (base b : List UInt8) : (longest base b).1 ≤ base.length ∧ (longest base b).2 ≤ b.length := longK_fst base b _

def cpHd (c : Cp) : List Value := [.int .i64 c.frm, .int .i64 c.n]
def cpIn (c : Cp) : List Value := c.bs.map fun b => .int .u8 b.toNat
/-- What is true of the pieces on the way: all numbers small. -/
def CpSmall (left : Nat) (out : List Cp) : Prop := ∀ c ∈ out, 0 ≤ c.frm ∧ c.frm ≤ 3000 ∧ 0 ≤ c.n ∧ c.n ≤ 3000 ∧ c.bs.length + left ≤ 3000
theorem nest_cp {w : World} {B E E2 : Nat} {v : Value} {out : List Cp} {left : Nat} (h : Nest cpHd cpIn 3 E E2 B w v out) (hs : CpSmall left out) : (Rp.sl cpRp).ok w (· < w.heap.size) [v] out := by
  refine Nest.rp (R := cpRp) (hd := cpHd) (inn := cpIn) (sz := 3) (fun _ => rfl) rfl h (fun g _ hg => hg) fun c hc u hu => ?_
  have h1 := hs c hc
  refine cp_mk (WalkArith.wf_i64 (by omega)) (WalkArith.wf_i64 (by omega)) (Rp.u8_own (n := (cpIn c).length) hu (fun g hg => (hu.lt g hg).2))

theorem nest_cpF {w : World} {B E E2 : Nat} {v : Value} {out : List Cp} {left : Nat} (h : Nest cpHd cpIn 3 E E2 B w v out) (hs : CpSmall left out) : (Rp.sl cpRp).ok w (fun k => B ≤ k ∧ k < w.heap.size) [v] out := by
  refine Nest.rp (R := cpRp) (hd := cpHd) (inn := cpIn) (sz := 3) (fun _ => rfl) rfl h (fun g h1 h2 => ⟨h1, h2⟩) fun c hc u hu => ?_
  have h1 := hs c hc
  exact cp_mk (WalkArith.wf_i64 (by omega)) (WalkArith.wf_i64 (by omega)) (Rp.u8_own (n := (cpIn c).length) hu (fun g hg => hu.lt g hg))
theorem uint8_info : (Try.prog.info? 5).map (fun i => (i.zero, i.size, i.bytes)) = some (some (.int .u8 0), 1, 1) := by kernel_rfl
theorem copy_info : (Try.prog.info? 93).map (fun i => (i.zero, i.size, i.bytes)) = some (some (.agg #[.int .i64 0, .int .i64 0, .slice none 0 0]), 3, 40) := by kernel_rfl

def DeltaPostF (base b : List UInt8) (w : World) (e : Ending) (w' : World) : Prop :=
  ∃ v, e = .returned v ∧ (Rp.sl cpRp).ok w' (fun k => w.heap.size ≤ k ∧ k < w'.heap.size) [v] (deltaL base b) ∧ Below w.heap.size w w'
def DeltaPost (base b : List UInt8) (w : World) (e : Ending) (w' : World) : Prop :=
  ∃ v, e = .returned v ∧ (Rp.sl cpRp).ok w' (· < w'.heap.size) [v] (deltaL base b) ∧ Below w.heap.size w w'

set_option maxRecDepth 100000 in
set_option maxHeartbeats 2000000 in
theorem delta_fresh (v1 v2 : Value) (base b : List UInt8) (w : World) (h1 : (Rp.sl Rp.u8).ok w (· < w.heap.size) [v1] base) (h2 : (Rp.sl Rp.u8).ok w (· < w.heap.size) [v2] b) (l1 : base.length ≤ 3000) (l2 : b.length ≤ 3000) :
    Calls Try.prog 62 #[v1, v2] w (DeltaPostF base b w) := by
  obtain ⟨A, c, rfl, hl1, hc1, _⟩ := Rp.sl_open h1
  obtain ⟨B, d, rfl, hl2, hc2, _⟩ := Rp.sl_open h2
  have H1 := Lib.hid h1
  have H2 := Lib.hid h2
  clear h1 h2
  go_enter Try.func62, Try.ntmps62
  go_wp2
  go_loopw [1, 5] (fun vb vo wr => ∃ (bs : List UInt8) (out : List Cp), bs.length ≤ b.length ∧ Hid ((Rp.sl Rp.u8).ok wr (· < w.heap.size) [vb] bs) ∧ Hid (Nest cpHd cpIn 3 93 5 w.heap.size wr vo out) ∧ Hid (CpSmall bs.length out) ∧ out.length + bs.length ≤ b.length ∧ Hid (deltaGo base bs out = deltaL base b) ∧ Hid (Below w.heap.size w wr))
    (fun vb _ _ => sliceLen vb)
  case atStart => exact ⟨b, [], by omega, H2.out, Nest.nil _, fun c hc => absurd hc (by simp), by simp, rfl, Below.refl _ _⟩
  case round =>
    obtain ⟨bs, out, hbl, HV, HN, HS, hol, HG, HB⟩ := hrel
    obtain ⟨A3, c3, rfl, hl3, hc3, _⟩ := Rp.sl_open HV.out
    by_cases hbs : bs = []
    · subst hbs
      have HD : Hid (out = deltaL base b) := by have := HG.out; rw [deltaGo] at this; exact this
      go_wp2
      go_ret
      exact ⟨_, rfl, by rw [← HD.out]; exact nest_cpF HN.out HS.out, HB.out⟩
    · have hpos : 0 < bs.length := List.length_pos_iff.2 hbs
      have HNE := Lib.hid hbs
      clear hbs
      go_wp2_with fail
      refine (longest_any _ _ base bs wr _ _ (Rp.below _ H1.out HB.out) HV.out l1 (by omega)).mono ?_
      rintro e w1 ⟨rfl, hd1⟩
      have HD1 := Lib.hid hd1
      clear hd1
      have hle := longest_le base bs
      by_cases h8 : 8 ≤ (longest base bs).2
      · have HC := Lib.hid (deltaGo_copy (out := out) HNE.out h8)
        generalize hp : longest base bs = p at *
        obtain ⟨p1, p2⟩ := p
        have HP := Lib.hid hp
        clear hp
        obtain ⟨xs, hown, hpush⟩ := Nest.open_ (by decide) (HN.out.grown (World.grownBy.refl _ _))
        have hown1 := HD1.out.own hown
        have HO := Lib.hid hown1
        have HPU := Lib.hid hpush
        clear hown hown1 hpush
        have hB1 : w.heap.size ≤ w1.heap.size := by rw [HD1.out.size]; exact HB.out.size
        obtain ⟨A4, hA4⟩ : ∃ A4, (if c3 = p2 then A3 else Option.map (fun x => x.add p2) A3) = A4 := ⟨_, rfl⟩
        have HV4 := Lib.hid (Rp.sl_drop1 rfl HV.out (lo := p2) (by omega))
        rw [hA4] at HV4
        go_wp2
        go_region_law (refine step_app_new (w := w1) (by rfl) (.tmp 20) (.tmp 24) 40 (by rfl) 93 (.agg #[.int .i64 0, .int .i64 0, .slice none 0 0]) 3 40 Try.underlying40 copy_info rfl (by decide) (m := 1) [.int .i64 p1, .int .i64 p2, .slice none 0 0] 1 (by rfl) HO.out hB1 (by rfl) (by rfl) (by rfl) (by decide) (by simp [Value.oneCell']) (by unfold maxLen; omega) (by omega) ?_; intro g1 cc1 w2 HO1 HG1 HB2 HL1)
        simp only [List.getElem_toArray, List.getElem_cons_succ, List.getElem_cons_zero, Act.put, List.setIfInBounds_toArray, List.set_cons_succ, List.set_cons_zero]
        go_wp2
        go_roundw
        case rel =>
          have hb2 := HB2.out _ (HD1.out.below (Below.refl w.heap.size wr))
          refine ⟨bs.drop p2, out ++ [⟨p1, p2, []⟩], by rw [List.length_drop]; omega, Rp.below _ HV4.out hb2, ?_, ?_, by rw [List.length_append, List.length_drop, List.length_singleton]; omega, by rw [← HG.out]; exact HC.out.symm, HB2.out _ (HD1.out.below HB.out)⟩
          · exact HPU.out w1 w2 _ ⟨p1, p2, []⟩ (.slice none 0 0) (HD1.out.grown _) (World.ownsRow_nil _ _ _ _) (fun g hg => by cases hg) HG1.out HO1.out
          · intro cp hcp
            rw [List.length_drop]
            rcases List.mem_append.1 hcp with h | h
            · have := HS.out cp h; omega
            · rw [List.mem_singleton.1 h]; simp; omega
        case measure => simp [sliceLen]; omega
      · obtain ⟨x, t, rfl⟩ := List.exists_cons_of_ne_nil HNE.out
        have HC := Lib.hid (deltaGo_byte (out := out) h8)
        generalize hp : longest base (x :: t) = p at *
        obtain ⟨p1, p2⟩ := p
        have HP := Lib.hid hp
        clear hp
        obtain ⟨ad, u, rfl, _, hu, hcell⟩ := Rp.sl_at1 rfl HV.out (k := 0) (by simp)
        have hu' : u = .int .u8 x.toNat := by injection hu
        subst hu'
        rw [add_nil] at hcell
        have hcell' : wr.cell? ad = some (.int .u8 x.toNat) := hcell
        clear hcell
        have hcell2 : w1.cell? ad = some (.int .u8 x.toNat) := by rw [← hcell']; exact (HD1.out.same (fun _ => True)).cell trivial
        clear hcell'
        have HN1 : Hid (Nest cpHd cpIn 3 93 5 w.heap.size w1 u5 out) := HN.out.grown (HD1.out.grown none)
        obtain ⟨A4, hA4⟩ : ∃ A4, (if c3 = 1 then some ad else some ⟨ad.block, ad.off + 1, none⟩) = A4 := ⟨_, rfl⟩
        have HV4 := Lib.hid (Rp.sl_drop1 rfl HV.out (lo := 1) (by simp))
        rw [Option.map_some, show ad.add 1 = ⟨ad.block, ad.off + 1, none⟩ from rfl, hA4] at HV4
        have hB1 : w.heap.size ≤ w1.heap.size := by rw [HD1.out.size]; exact HB.out.size
        simp only [List.length_cons] at hol hbl hl3
        by_cases hfresh : out = [] ∨ ∃ init cp, out = init ++ [cp] ∧ cp.n ≠ 0
        · have HCB : Hid (addByte out x = out ++ [⟨0, 0, [x]⟩]) := by
            rcases hfresh with rfl | ⟨init, cp, rfl, hn0⟩
            · rfl
            · exact addByte_copy init cp x hn0
          obtain ⟨xs, hown, hpush⟩ := Nest.open_ (by decide) HN1.out
          have HO := Lib.hid hown
          have HPU := Lib.hid hpush
          obtain ⟨A5, c5, rfl, hn5, hc5, _⟩ := own_form hown
          have hguard : out.length = 0 ∨ (0 < out.length ∧ ∃ (G : Nat) (n : Int), A5 = some ⟨G, 0, none⟩ ∧ w1.cell? ⟨G, (out.length - 1) * 3 + 1, none⟩ = some (.int .i64 n) ∧ (n == 0) = false) := by
            rcases hfresh with rfl | ⟨init, cp, rfl, hn0⟩
            · exact .inl rfl
            · right
              obtain ⟨G, gc, ub, e, hG1, hG2, hub, hne, hhd, hlast, hfr, hset⟩ := Nest.last (hd := cpHd) (inn := cpIn) (fun _ => rfl) (by decide) HN1.out
              injection e with e
              refine ⟨by simp, G, cp.n, e, ?_, by simpa using hn0⟩
              rw [List.length_append, List.length_singleton, Nat.add_sub_cancel]
              exact hhd 1 _ rfl
          clear hown hpush hfresh
          have done : ∀ (w2 : World) (g cc : Nat), (w1.alloc (.cells #[.int .u8 x.toNat] 5)).grownBy w2 (Value.slice A5 out.length c5).ownBlock → w2.ownsRow w.heap.size 93 3 (.slice (some ⟨g, 0, none⟩) (out.length + 1) cc) (out.length + 1) (xs ++ [.int .i64 0, .int .i64 0, .slice (some ⟨w1.heap.size, 0, none⟩) 1 1]) →
              (∀ w0, Below w.heap.size w0 (w1.alloc (.cells #[.int .u8 x.toNat] 5)) → Below w.heap.size w0 w2) →
              ∃ (bs : List UInt8) (out' : List Cp), bs.length ≤ b.length ∧ Hid ((Rp.sl Rp.u8).ok w2 (· < w.heap.size) [.slice A4 t.length (c3 - 1)] bs) ∧ Hid (Nest cpHd cpIn 3 93 5 w.heap.size w2 (.slice (some ⟨g, 0, none⟩) (out.length + 1) cc) out') ∧ Hid (CpSmall bs.length out') ∧ out'.length + bs.length ≤ b.length ∧ Hid (deltaGo base bs out' = deltaL base b) ∧ Hid (Below w.heap.size w w2) := by
            intro w2 g cc hg hown hbel
            have hal := (HD1.out.below (Below.refl w.heap.size wr)).alloc hB1 (.cells #[.int .u8 x.toNat] 5)
            refine ⟨t, out ++ [⟨0, 0, [x]⟩], by omega, by exact Rp.below _ HV4.out (hbel _ hal), ?_, ?_, by simp; omega, ?_, ?_⟩
            · exact HPU.out _ w2 _ ⟨0, 0, [x]⟩ _ (World.grownBy_alloc w1 _ none) (own_lit hB1 _ [.int .u8 x.toNat] (by simp [maxLen])) (fun g hg => Nat.le_of_eq (Option.some.inj hg)) hg hown
            · intro cp hcp
              rcases List.mem_append.1 hcp with h | h
              · have := HS.out cp h; simp only [List.length_cons] at this; omega
              · rw [List.mem_singleton.1 h]; simp; omega
            · rw [← HCB.out, ← HG.out]; exact HC.out.symm
            · exact hbel _ ((HD1.out.below HB.out).alloc hB1 _)
          have HDN := Lib.hid done
          clear done
          rcases hguard with h0 | ⟨h0, G, n, rfl, hcn, hn0⟩
          · simp only [h0] at hol HO HDN ⊢
            go_wp2_with (at_builtin; go_must (refine app_new (w := w1.alloc (.cells #[.int .u8 x.toNat] 5)) rfl (.tmp 56) (.tmp 62) 40 rfl 93 (.agg #[.int .i64 0, .int .i64 0, .slice none 0 0]) 3 40 Try.underlying40 copy_info rfl (by decide) (m := 1) [.int .i64 0, .int .i64 0, .slice (some ⟨w1.heap.size, 0, none⟩) 1 1] (HO.out.alloc _) (by simp; omega) rfl (by rw [World.size_alloc]; rfl) rfl (by decide) (by simp [Value.oneCell']) (by unfold maxLen; omega) (by omega) ?_); intro g1 cc1 w2 HO1 HG1 HB2 HL1)
            go_roundw
            case rel => exact HDN.out w2 g1 cc1 HG1.out HO1.out HB2.out
            case measure => simp [sliceLen]
          · obtain ⟨k, hk⟩ : ∃ k, out.length = k + 1 := ⟨out.length - 1, by omega⟩
            rw [show out.length - 1 = k by omega] at hcn
            simp only [hk] at hol HO HDN ⊢
            have hk3 : (k : Int) ≤ 3000 := by omega
            go_wp2_with (at_builtin; go_must (refine app_new (w := w1.alloc (.cells #[.int .u8 x.toNat] 5)) rfl (.tmp 56) (.tmp 62) 40 rfl 93 (.agg #[.int .i64 0, .int .i64 0, .slice none 0 0]) 3 40 Try.underlying40 copy_info rfl (by decide) (m := 1) [.int .i64 0, .int .i64 0, .slice (some ⟨w1.heap.size, 0, none⟩) 1 1] (HO.out.alloc _) (by simp; omega) rfl (by rw [World.size_alloc]; rfl) rfl (by decide) (by simp [Value.oneCell']) (by unfold maxLen; omega) (by omega) ?_); intro g1 cc1 w2 HO1 HG1 HB2 HL1)
            go_roundw
            case rel => exact HDN.out w2 g1 cc1 HG1.out HO1.out HB2.out
            case measure => simp [sliceLen]
        · obtain ⟨init, cp, rfl⟩ : ∃ init cp, out = init ++ [cp] := ⟨_, _, (List.dropLast_concat_getLast (fun h => hfresh (.inl h))).symm⟩
          have hn0 : cp.n = 0 := Classical.not_not.1 fun h => hfresh (.inr ⟨init, cp, rfl, h⟩)
          clear hfresh
          have HCB := Lib.hid (addByte_zero init cp x hn0)
          obtain ⟨G, gc, ub, rfl, hG1, hG2, hub, hne, hhd, hlast, hfr, hset⟩ := Nest.last (hd := cpHd) (inn := cpIn) (fun _ => rfl) (by decide) HN1.out
          have hcn : w1.cell? ⟨G, init.length * 3 + 1, none⟩ = some (.int .i64 0) := by rw [← hn0]; exact hhd 1 _ rfl
          have hcl : w1.cell? ⟨G, init.length * 3 + 2, none⟩ = some ub := hlast
          have HU := Lib.hid hub
          have HSET := Lib.hid hset
          have HFR := Lib.hid hfr
          have HNE2 := Lib.hid hne
          have hcpl := (HS.out cp (by simp)).2.2.2.2
          have hinl : (cpIn cp).length = cp.bs.length := by simp [cpIn]
          have HINL := Lib.hid hinl
          simp only [List.length_append, List.length_cons, List.length_nil] at hol hcpl
          have hk3 : (init.length : Int) ≤ 3000 := by omega
          clear hub hset hfr hne hhd hlast hn0 hinl
          have done : ∀ (w2 : World) (g cc : Nat), w2.ownsRow w.heap.size 5 1 (.slice (some ⟨g, 0, none⟩) ((cpIn cp).length + 1) cc) ((cpIn cp).length + 1) (cpIn cp ++ [.int .u8 x.toNat]) → w1.grownBy w2 ub.ownBlock → (∀ w0, Below w.heap.size w0 w1 → Below w.heap.size w0 w2) → (ub.ownBlock = some g ∨ w1.heap.size ≤ g) →
              ∃ (bs : List UInt8) (out' : List Cp), bs.length ≤ b.length ∧ Hid ((Rp.sl Rp.u8).ok (w2.setCell ⟨G, init.length * 3 + 2, none⟩ (.slice (some ⟨g, 0, none⟩) ((cpIn cp).length + 1) cc)) (· < w.heap.size) [.slice A4 t.length (c3 - 1)] bs) ∧
                Hid (Nest cpHd cpIn 3 93 5 w.heap.size (w2.setCell ⟨G, init.length * 3 + 2, none⟩ (.slice (some ⟨g, 0, none⟩) ((cpIn cp).length + 1) cc)) (.slice (some ⟨G, 0, none⟩) (init.length + 1) gc) out') ∧ Hid (CpSmall bs.length out') ∧ out'.length + bs.length ≤ b.length ∧
                Hid (deltaGo base bs out' = deltaL base b) ∧ Hid (Below w.heap.size w (w2.setCell ⟨G, init.length * 3 + 2, none⟩ (.slice (some ⟨g, 0, none⟩) ((cpIn cp).length + 1) cc))) := by
            intro w2 g cc hown hg hbel hloc
            have e : cpIn ⟨cp.frm, cp.n, cp.bs ++ [x]⟩ = cpIn cp ++ [.int .u8 x.toNat] := by simp [cpIn]
            refine ⟨t, init ++ [⟨cp.frm, cp.n, cp.bs ++ [x]⟩], by omega, Rp.below _ HV4.out ((hbel _ (HD1.out.below (Below.refl w.heap.size wr))).setCell hG1 _), ?_, ?_, by rw [List.length_append, List.length_singleton]; omega, ?_, (hbel _ (HD1.out.below HB.out)).setCell hG1 _⟩
            · refine HSET.out w2 _ ⟨cp.frm, cp.n, cp.bs ++ [x]⟩ rfl ?_ hg ?_
              · rw [e, List.length_append, List.length_singleton]; exact hown
              · rcases hloc with h | h
                · exact .inl h.symm
                · exact .inr ⟨g, rfl, h⟩
            · intro cq hcq
              rcases List.mem_append.1 hcq with h | h
              · have := HS.out cq (List.mem_append_left _ h); simp only [List.length_cons] at this; omega
              · have := HS.out cp (by simp)
                rw [List.mem_singleton.1 h]; simp only [List.length_append, List.length_cons, List.length_nil] at this ⊢; omega
            · rw [← HCB.out, ← HG.out]; exact HC.out.symm
          have HDN := Lib.hid done
          clear done
          go_wp2
          have hlt1 : (init.length : Int) < (init.length : Int) + 1 := by omega
          go_region_law (refine step_app_new (w := w1) (by rfl) (.tmp 48) (.tmp 52) 22 (by rfl) 5 (.int .u8 0) 1 1 Try.underlying22 uint8_info rfl (by decide) (m := 1) [.int .u8 x.toNat] 1 (by rfl) HU.out hB1 (by rfl) (by rfl) (by rfl) (by decide) (by simp [Value.oneCell']) (by have := HINL.out; unfold maxLen; omega) (by have := HINL.out; omega) ?_; intro g1 cc1 w2 HO1 HG1 HB2 HL1; have hc2 : w2.cell? ⟨G, init.length * 3 + 2, none⟩ = some ub := (World.cell?_of_block (HG1.out.block G hG2 (fun e => HNE2.out e.symm))).trans hcl; have hf2 := HFR.out w2 (HG1.out.block G hG2 (fun e => HNE2.out e.symm)) (init.length * 3 + 2))
          go_wp2
          all_goals go_roundw
          all_goals first
            | exact HDN.out _ _ _ HO1.out HG1.out HB2.out HL1.out
            | (simp [sliceLen]; done)
theorem delta_any (v1 v2 : Value) (base b : List UInt8) (w : World) (h1 : (Rp.sl Rp.u8).ok w (· < w.heap.size) [v1] base) (h2 : (Rp.sl Rp.u8).ok w (· < w.heap.size) [v2] b) (l1 : base.length ≤ 3000) (l2 : b.length ≤ 3000) :
    Calls Try.prog 62 #[v1, v2] w (DeltaPost base b w) :=
  (delta_fresh v1 v2 base b w h1 h2 l1 l2).mono fun e w' ⟨v, h1, h2, h3⟩ => ⟨v, h1, Rp.sub _ h2 (fun k hk => hk.2), h3⟩
end Go.Proofs.Ytofahmdjhpbecaa
