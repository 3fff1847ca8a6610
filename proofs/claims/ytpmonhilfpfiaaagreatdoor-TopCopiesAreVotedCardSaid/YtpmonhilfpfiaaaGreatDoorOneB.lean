/-
  'Turn' and 'OneByte' of the reference of chapter 12: one byte of one file is another one.
-/
import Derived.Test.YtpmonhilfpfiaaaGreatDoorProg
import Derived.Test.YtpmonhilfpfiaaaGreatDoorPkgOf
import Derived.Test.YtpmonhilfpfiaaaGreatDoorFnvInj
import Derived.Deep.RegionHeld3
namespace Go.Proofs.YtpmonhilfpfiaaaGreatDoor
open Go.RowKit
set_option linter.unusedVariables false
set_option linter.unusedSimpArgs false

theorem file_info : (Tryz.prog.info? 59).map (fun i => (i.zero, i.size, i.bytes)) = some (some (.agg #[.string ⟨#[]⟩, .slice none 0 0]), 2, 40) := by kernel_rfl
theorem u8info : (Tryz.prog.info? 5).map (fun i => (i.zero, i.size, i.bytes)) = some (some (.int .u8 0), 1, 1) := by kernel_rfl
/-- The cells of a row of files. -/
theorem files_cells {w : World} {S : Nat → Prop} {ad : Addr} {c : Nat} {l : List FileR} (h : (Rp.sl fileRp).ok w S [.slice (some ad) l.length c] l) :
    ∃ xs : List Value, xs.length = l.length * 2 ∧ (∀ j u, xs[j]? = some u → w.cell? (ad.add j) = some u) ∧ (∀ u ∈ xs, u.oneCell' = true) ∧
      ∀ k (hk : k < l.length), ∃ v1, xs[k * 2]? = some (.string (bstr l[k].path)) ∧ xs[k * 2 + 1]? = some v1 ∧ (Rp.sl Rp.u8).ok w S [v1] l[k].bytes ∧ l[k].path.length ≤ maxLen := by
  have H : ∀ k (hk : k < l.length), ∃ v1, w.cell? (ad.add (k * 2)) = some (.string (bstr l[k].path)) ∧ w.cell? (ad.add (k * 2 + 1)) = some v1 ∧ (Rp.sl Rp.u8).ok w S [v1] l[k].bytes ∧ l[k].path.length ≤ maxLen := fun k hk => by
    obtain ⟨ad', us, e, _, _, hu, hcell⟩ := Rp.sl_at h hk
    cases e
    obtain ⟨v1, rfl, hz1, hv⟩ := file_open hu
    exact ⟨v1, hcell 0 _ rfl, hcell 1 _ rfl, hv, hz1⟩
  let b : Nat → Value := fun k => if hk : k < l.length then Classical.choose (H k hk) else undef
  have hb : ∀ k (hk : k < l.length), w.cell? (ad.add (k * 2)) = some (.string (bstr l[k].path)) ∧ w.cell? (ad.add (k * 2 + 1)) = some (b k) ∧ (Rp.sl Rp.u8).ok w S [b k] l[k].bytes ∧ l[k].path.length ≤ maxLen := fun k hk => by
    have := Classical.choose_spec (H k hk)
    simpa only [b, dif_pos hk] using this
  refine ⟨(List.range (l.length * 2)).map fun j => if j % 2 = 0 then .string (bstr (l.getD (j / 2) default).path) else b (j / 2), by simp, fun j u hj => ?_, fun u hu => ?_, fun k hk => ?_⟩
  · rw [List.getElem?_map] at hj
    have hjl : j < l.length * 2 := by
      rcases Nat.lt_or_ge j (l.length * 2) with h | h
      · exact h
      · rw [List.getElem?_eq_none (by simpa using h)] at hj; cases hj
    rw [List.getElem?_range hjl, Option.map_some] at hj
    injection hj with hj
    have hk : j / 2 < l.length := by omega
    have hh := hb (j / 2) hk
    by_cases hm : j % 2 = 0
    · rw [if_pos hm, getD_at _ _ hk] at hj
      rw [show j = j / 2 * 2 by omega, hh.1, hj]
    · rw [if_neg hm] at hj
      have e : j = j / 2 * 2 + 1 := by omega
      rw [← hj]
      exact (congrArg (fun i => w.cell? (ad.add i)) e).trans hh.2.1
  · obtain ⟨j, hj, rfl⟩ := List.mem_map.1 hu
    have hk : j / 2 < l.length := by have := List.mem_range.1 hj; omega
    split
    · rfl
    · exact (Rp.sl Rp.u8).one (hb (j / 2) hk).2.2.1 _ (by simp)
  · have hh := hb k hk
    refine ⟨b k, ?_, ?_, hh.2.2.1, hh.2.2.2⟩
    · rw [List.getElem?_map, List.getElem?_range (by omega), Option.map_some, if_pos (by omega), show k * 2 / 2 = k by omega, getD_at _ _ hk]
    · rw [List.getElem?_map, List.getElem?_range (by omega), Option.map_some, if_neg (by omega), show (k * 2 + 1) / 2 = k by omega]
theorem files_read {w : World} {B : Nat} {v : Value} {l : List FileR} {xs : List Value} (h : w.ownsRow B 59 2 v l.length xs)
    (hx : ∀ k (hk : k < l.length), ∃ v1, xs[k * 2]? = some (.string (bstr l[k].path)) ∧ xs[k * 2 + 1]? = some v1 ∧ (Rp.sl Rp.u8).ok w (· < w.heap.size) [v1] l[k].bytes ∧ l[k].path.length ≤ maxLen) : (Rp.sl fileRp).ok w (· < w.heap.size) [v] l := by
  refine Rp.of_own (R := fileRp) (by decide) h (fun g hg => (h.lt g hg).2) fun k hk => ?_
  obtain ⟨v1, h0, h1, hv, hz⟩ := hx k hk
  have e : (xs.drop (k * 2)).take 2 = [.string (bstr l[k].path), v1] := by
    apply List.ext_getElem?
    intro j
    match j with
    | 0 => rw [List.getElem?_take_of_lt (by decide), List.getElem?_drop]; exact h0
    | 1 => rw [List.getElem?_take_of_lt (by decide), List.getElem?_drop]; exact h1
    | j + 2 => rw [List.getElem?_take_eq_none (by omega)]; rfl
  show fileRp.ok w _ ((xs.drop (k * 2)).take 2) l[k]
  rw [e]
  exact ⟨[_], [_], rfl, ⟨rfl, hz⟩, hv⟩
set_option maxRecDepth 100000 in
set_option maxHeartbeats 1000000 in
theorem cloneFiles_any (ad : Addr) (n c : Nat) (xs : List Value) (w : World) (had : ad.block < w.heap.size) (hxl : xs.length = n * 2) (hx : ∀ j u, xs[j]? = some u → w.cell? (ad.add j) = some u) (hx1 : ∀ u ∈ xs, u.oneCell' = true) (hm : n ≤ 1000) :
    Calls Tryz.prog 20 #[.slice (some ad) n c] w fun e w' => ∃ v, e = .returned v ∧ w'.ownsRow w.heap.size 59 2 v n xs ∧ Below w.heap.size w w' := by
  have hq : ∀ W : World, (binOp .eql 22 (.slice (some ad) n c) (.slice none 0 0)).run Tryz.prog W = .ok (.bool false) W := fun W => Lib.run_eql_slice_nil (P := Tryz.prog) W 22 59 (some ad) n c 0 0 Tryz.underlying22
  have ho : (w.alloc (.cells #[] 59)).ownsRow w.heap.size 59 2 (.slice (some ⟨w.heap.size, 0, none⟩) 0 0) 0 [] := World.ownsRow_lit (size := 2) w #[] 0 (Nat.le_refl _) (by unfold maxLen; omega) rfl
  have HO := Lib.hid ho
  have hal := (Below.refl w.heap.size w).alloc (Nat.le_refl _) (.cells #[] 59)
  have HAL := Lib.hid hal
  have HC : Hid (∀ j u, xs[j]? = some u → (w.alloc (.cells #[] 59)).cell? (ad.add j) = some u) := Lib.hid (fun j u hj => (hal.cell (by rw [add_block]; exact had)).trans (hx j u hj))
  have HFL := Lib.hid hxl
  have H1 := Lib.hid hx1
  obtain ⟨i, hi, hz, hi1, hi2⟩ := info_parts file_info
  clear ho hal hx hxl hx1
  go_enter Tryz.func20, Tryz.ntmps20
  go_wp2_with (at_builtin; refine wpList_append_own _ rfl (.tmp 5) (.tmp 6) 22 rfl w.heap.size 59 i (.agg #[.string ⟨#[]⟩, .slice none 0 0]) 2 40 Tryz.underlying22 hi hz hi1 hi2 rfl (by decide) (.slice (some ⟨w.heap.size, 0, none⟩) 0 0) 0 [] rfl HO.out ad n c xs rfl HFL.out HC.out H1.out (by unfold maxLen; omega) (by omega) (by simp) ?_; intro v' w' hown hgr _)
  go_ret
  have h2 := hown
  simp only [Nat.zero_add, List.nil_append] at h2
  exact ⟨_, rfl, h2, HAL.out.grown hgr (by simp) (fun k e => by cases e; exact Nat.le_refl _)⟩
set_option maxRecDepth 100000 in
set_option maxHeartbeats 1000000 in
theorem cloneBytes_any (ad : Addr) (n c : Nat) (xs : List Value) (w : World) (had : ad.block < w.heap.size) (hxl : xs.length = n * 1) (hx : ∀ j u, xs[j]? = some u → w.cell? (ad.add j) = some u) (hx1 : ∀ u ∈ xs, u.oneCell' = true) (hm : n ≤ 1000000) :
    Calls Tryz.prog 21 #[.slice (some ad) n c] w fun e w' => ∃ v, e = .returned v ∧ w'.ownsRow w.heap.size 5 1 v n xs ∧ Below w.heap.size w w' := by
  have hq : ∀ W : World, (binOp .eql 57 (.slice (some ad) n c) (.slice none 0 0)).run Tryz.prog W = .ok (.bool false) W := fun W => Lib.run_eql_slice_nil (P := Tryz.prog) W 57 5 (some ad) n c 0 0 Tryz.underlying57
  have ho : (w.alloc (.cells #[] 5)).ownsRow w.heap.size 5 1 (.slice (some ⟨w.heap.size, 0, none⟩) 0 0) 0 [] := World.ownsRow_lit (size := 1) w #[] 0 (Nat.le_refl _) (by unfold maxLen; omega) rfl
  have HO := Lib.hid ho
  have hal := (Below.refl w.heap.size w).alloc (Nat.le_refl _) (.cells #[] 5)
  have HAL := Lib.hid hal
  have HC : Hid (∀ j u, xs[j]? = some u → (w.alloc (.cells #[] 5)).cell? (ad.add j) = some u) := Lib.hid (fun j u hj => (hal.cell (by rw [add_block]; exact had)).trans (hx j u hj))
  have HFL := Lib.hid hxl
  have H1 := Lib.hid hx1
  obtain ⟨i, hi, hz, hi1, hi2⟩ := info_parts u8info
  clear ho hal hx hxl hx1
  go_enter Tryz.func21, Tryz.ntmps21
  go_wp2_with (at_builtin; refine wpList_append_own _ rfl (.tmp 5) (.tmp 6) 57 rfl w.heap.size 5 i (.int .u8 0) 1 1 Tryz.underlying57 hi hz hi1 hi2 rfl (by decide) (.slice (some ⟨w.heap.size, 0, none⟩) 0 0) 0 [] rfl HO.out ad n c xs rfl HFL.out HC.out H1.out (by unfold maxLen; omega) (by omega) (by simp) ?_; intro v' w' hown hgr _)
  go_ret
  have h2 := hown
  simp only [Nat.zero_add, List.nil_append] at h2
  exact ⟨_, rfl, h2, HAL.out.grown hgr (by simp) (fun k e => by cases e; exact Nat.le_refl _)⟩
def belowK (x : Int) (n : Nat) : Nat := (x % (n : Int)).toNat
theorem belowK_lt (x : Int) {n : Nat} (h : 0 < n) : belowK x n < n := by unfold belowK; have := Int.emod_lt_of_pos x (show (0 : Int) < n by omega); have := Int.emod_nonneg x (show (n : Int) ≠ 0 by omega); omega
set_option maxHeartbeats 400000 in
theorem turn_any (x : Int) (n : Nat) (w : World) (h0 : 0 < n) (hn : n ≤ 100000) (hx : (Lit.int .i64 x).wf = true) :
    Calls Tryz.prog 19 #[.int .i64 x, .int .i64 n] w fun e w' => e = .returned (.int .i64 (belowK x n)) ∧ w = w' := by
  have hlo := Int.emod_nonneg x (show (n : Int) ≠ 0 by omega)
  have hhi := Int.emod_lt_of_pos x (show (0 : Int) < n by omega)
  have hte := @Int.tmod_eq_emod x n
  by_cases h : x.tmod n < 0
  · have hv : x.tmod n + n = (belowK x n : Int) := by
      unfold belowK
      split at hte <;> omega
    have hw : wrap64 (x.tmod n + n) = (belowK x n : Int) := by rw [hv]; exact IntWalk.wrap64_in _ (by have := belowK_lt x h0; omega)
    have HW := Lib.hid hw
    clear hlo hhi hte hw hv
    go_enter Tryz.func19, Tryz.ntmps19
    go_wp2
    go_ret
    exact ⟨by show Ending.returned (Value.int .i64 (wrap64 (x.tmod n + n))) = _; rw [HW.out], rfl⟩
  · have hv : x.tmod n = (belowK x n : Int) := by
      unfold belowK
      split at hte <;> omega
    have HV := Lib.hid hv
    clear hlo hhi hte hv
    go_enter Tryz.func19, Tryz.ntmps19
    go_wp2
    go_ret
    exact ⟨by show Ending.returned (Value.int .i64 (x.tmod n)) = _; rw [HV.out], rfl⟩
theorem getD_ltO {α : Type} (l : List α) (k : Nat) (d : α) (h : k < l.length) : l.getD k d = l[k] := by rw [List.getD_eq_getElem?_getD, List.getElem?_eq_getElem h]; rfl
def flipAt (b : List UInt8) (q : Nat) : List UInt8 := b.set q (b.getD q 0 ^^^ 1)
def damP (l : List FileR) (x : Int) : List UInt8 := if l.length = 0 then [] else if (l.getD (belowK x l.length) default).bytes.length = 0 then [] else (l.getD (belowK x l.length) default).path
def damL (l : List FileR) (x y : Int) : List FileR := if l.length = 0 then l else if (l.getD (belowK x l.length) default).bytes.length = 0 then l else
  l.set (belowK x l.length) ⟨(l.getD (belowK x l.length) default).path, flipAt (l.getD (belowK x l.length) default).bytes (belowK y (l.getD (belowK x l.length) default).bytes.length)⟩
def DamPost (l : List FileR) (x y : Int) (w : World) (e : Ending) (w' : World) : Prop := ∃ v, e = .returned (.tuple #[v, .string (bstr (damP l x))]) ∧ (Rp.sl fileRp).ok w' (· < w'.heap.size) [v] (damL l x y) ∧ Below w.heap.size w w'
theorem DamPost.same {l : List FileR} {x y : Int} {w : World} {v : Value} (h : (Rp.sl fileRp).ok w (· < w.heap.size) [v] l) (hp : damP l x = []) (hl : damL l x y = l) : DamPost l x y w (.returned (.tuple #[v, .string ⟨#[]⟩])) w :=
  ⟨v, by rw [hp]; rfl, by rw [hl]; exact h, Below.refl _ _⟩
theorem u8_flip (b : UInt8) : bits BinOp.xor IntKind.u8 (b.toNat : Int) 1 = ((b ^^^ 1).toNat : Int) := by
  have hb : b.toNat < 256 := b.toNat_lt
  have hx : b.toNat ^^^ 1 < 2 ^ 8 := Nat.xor_lt_two_pow (by omega) (by omega)
  have h1 : (BitVec.ofInt 8 (b.toNat : Int)).toNat = b.toNat := by
    rw [BitVec.ofInt_natCast, BitVec.toNat_ofNat]; exact Nat.mod_eq_of_lt (by omega)
  rw [UInt8.toNat_xor]
  show IntKind.u8.wrap ((BitVec.ofInt 8 (b.toNat : Int) ^^^ BitVec.ofInt 8 1).toNat : Int) = ((b.toNat ^^^ 1 : Nat) : Int)
  rw [BitVec.toNat_xor, h1, show (BitVec.ofInt 8 1).toNat = 1 by rfl]
  generalize b.toNat ^^^ 1 = z at hx
  simp [IntKind.wrap, IntKind.bits, IntKind.signed]
  omega
set_option maxRecDepth 100000 in
set_option maxHeartbeats 4000000 in
theorem oneByte_any (v0 : Value) (l : List FileR) (x y : Int) (w : World) (h0 : (Rp.sl fileRp).ok w (· < w.heap.size) [v0] l) (hl : l.length ≤ 500) (hb : ∀ f ∈ l, f.bytes.length ≤ 100000) (hx : (Lit.int .i64 x).wf = true) (hy : (Lit.int .i64 y).wf = true) :
    Calls Tryz.prog 7 #[v0, .int .i64 x, .int .i64 y] w (DamPost l x y w) := by
  obtain ⟨A, c, rfl, hlc, hc, _⟩ := Rp.sl_open h0
  unfold maxLen at hc
  by_cases hz : l.length = 0
  · have hz' : ((l.length : Int) == 0) = true := by rw [hz]; rfl
    have HP := Lib.hid (DamPost.same (x := x) (y := y) h0 (by rw [damP, if_pos hz]) (by rw [damL, if_pos hz]))
    clear h0
    go_enter Tryz.func7, Tryz.ntmps7
    go_wp2_with fail
    go_ret2
    exact HP.out
  have hz' : ((l.length : Int) == 0) = false := by rw [beq_eq_false_iff_ne]; omega
  have hm := belowK_lt x (show 0 < l.length by omega)
  obtain ⟨ad, c2, v1, e1, hadb, c0, c1, hz1, hv1⟩ := file_at h0 hm
  injection e1 with e1 _ e3
  subst e1 e3
  obtain ⟨A1, cb, rfl, hcb, hcbm, _⟩ := Rp.sl_open hv1
  unfold maxLen at hcbm
  obtain ⟨xs, hxl, hxc, hx1, hxr⟩ := files_cells h0
  have HXR := Lib.hid hxr
  obtain ⟨u1, hx0, hxv, _⟩ := hxr _ hm
  have hu1 : u1 = .slice A1 (l[belowK x l.length]).bytes.length cb := by
    have := hxc _ _ hxv
    rw [add_fld _ _ _ (by decide)] at this
    exact Option.some.inj (this.symm.trans c1)
  subst hu1
  have HB := Lib.hid (hb _ (List.getElem_mem hm))
  have H0 := Lib.hid h0
  have HDP : Hid (damP l x = if (l[belowK x l.length]).bytes.length = 0 then [] else (l[belowK x l.length]).path) := Lib.hid (by rw [damP, if_neg hz, getD_at _ _ hm])
  have HDL : Hid (damL l x y = if (l[belowK x l.length]).bytes.length = 0 then l else l.set (belowK x l.length) ⟨(l[belowK x l.length]).path, flipAt (l[belowK x l.length]).bytes (belowK y (l[belowK x l.length]).bytes.length)⟩) := Lib.hid (by rw [damL, if_neg hz, getD_at _ _ hm])
  have HBL := Lib.hid (turn_any x l.length w (by omega) (by omega) hx)
  clear h0 hb hx hxr
  generalize hmm : belowK x l.length = m at *
  generalize hff : l[m] = r at *
  have HFF := Lib.hid hff
  clear hff hmm
  go_enter Tryz.func7, Tryz.ntmps7
  go_wp2_with fail
  refine HBL.out.mono ?_
  rintro e w1 ⟨rfl, rfl⟩
  by_cases hrz : r.bytes.length = 0
  · have hrz' : ((r.bytes.length : Int) == 0) = true := by rw [hrz]; rfl
    have HP := Lib.hid (DamPost.same (x := x) (y := y) H0.out (by rw [HDP.out, if_pos hrz]) (by rw [HDL.out, if_pos hrz]))
    clear HDP HDL
    go_wp2_with fail
    go_ret2
    exact HP.out
  have hrz' : ((r.bytes.length : Int) == 0) = false := by rw [beq_eq_false_iff_ne]; omega
  have HV1 := Lib.hid hv1
  obtain ⟨ad1, rfl⟩ : ∃ ad1, A1 = some ad1 := by
    rcases Rp.sl_some hv1 (by omega) with ⟨a', h⟩
    rcases h with ⟨h, _⟩ | h
    · exact ⟨a', h⟩
    · cases h
  have HYC : Hid (ad1.block < w.heap.size ∧ ∀ j u, (r.bytes.map fun b => Value.int .u8 b.toNat)[j]? = some u → w.cell? (ad1.add j) = some u) := Lib.hid (by
    obtain ⟨a', u', e', hb', hu', hcell'⟩ := Rp.sl_at1 rfl hv1 (show 0 < r.bytes.length by omega)
    cases e'
    refine ⟨hb', fun j u hj => ?_⟩
    rw [List.getElem?_map] at hj
    have hjl : j < r.bytes.length := by
      rcases Nat.lt_or_ge j r.bytes.length with h | h
      · exact h
      · rw [List.getElem?_eq_none h] at hj; cases hj
    rw [List.getElem?_eq_getElem hjl, Option.map_some] at hj
    injection hj with hj
    obtain ⟨a', u', e', _, hu', hcell'⟩ := Rp.sl_at1 rfl hv1 hjl
    cases e'
    cases hu'
    rw [hcell', hj])
  clear hv1
  go_wp2_with fail
  refine (cloneFiles_any ad l.length c xs w hadb hxl hxc hx1 (by omega)).mono ?_
  rintro e w2 ⟨v2, rfl, hown2, hb2⟩
  have HB2 := Lib.hid hb2
  rcases hown2.2 with ⟨_, hn⟩ | ⟨g, cap, cur, rfl, hgB, hgb, hnc, hcm, _⟩
  · omega
  have e1 : w2.cell? ⟨g, m * 2 + 1, none⟩ = some (.slice (some ad1) r.bytes.length cb) := (hown2.cellAt (m * 2 + 1) (by omega)).trans hxv
  have HO2 := Lib.hid hown2
  have HYC2 : Hid (∀ j u, (r.bytes.map fun b => Value.int .u8 b.toNat)[j]? = some u → w2.cell? (ad1.add j) = some u) := Lib.hid (fun j u hj => (hb2.cell (by rw [add_block]; exact HYC.out.1)).trans (HYC.out.2 j u hj))
  have hw2 := hb2.size
  unfold maxLen at hcm
  clear hown2 hb2 hgb
  go_wp2_with fail
  refine (cloneBytes_any ad1 r.bytes.length cb (r.bytes.map fun b => Value.int .u8 b.toNat) w2 (by have := HYC.out.1; omega) (by simp) HYC2.out (fun u hu => by obtain ⟨b, _, rfl⟩ := List.mem_map.1 hu; rfl) (by have := HB.out; omega)).mono ?_
  rintro e w3 ⟨v3, rfl, hown3, hb3⟩
  have HB3 := Lib.hid hb3
  rcases hown3.2 with ⟨_, hn⟩ | ⟨g3, cap3, cur3, rfl, hgB3, hgb3, hnc3, hcm3, _⟩
  · omega
  have hgl : g < w2.heap.size := (HO2.out.lt g rfl).2
  have hbl := HB.out
  have hq := belowK_lt y (show 0 < r.bytes.length by omega)
  have HBQ := Lib.hid (turn_any y r.bytes.length w3 (by omega) (by omega) hy)
  have hd3 : w3.cell? ⟨g3, belowK y r.bytes.length, none⟩ = some (.int .u8 (r.bytes[belowK y r.bytes.length]).toNat) := (hown3.cellAt _ (by omega)).trans (by rw [List.getElem?_map, List.getElem?_eq_getElem hq]; rfl)
  have hf3 := hown3.frozenAt (belowK y r.bytes.length)
  have hst3 := hown3.stored (belowK y r.bytes.length) (.int .u8 (bits BinOp.xor IntKind.u8 ((r.bytes[belowK y r.bytes.length]).toNat : Int) 1))
  have HST3 := Lib.hid hst3
  have ho23 := HO2.out.kept (below_grown hb3) (.inr (by simp [Value.ownBlock]))
  have e3 := ho23.cellAt (m * 2 + 1) (by omega)
  have f3 := ho23.frozenAt (m * 2 + 1)
  rw [hxv] at e3
  have ho24 := ho23.kept hst3.2 (.inr (by simp only [Value.ownBlock, ne_eq, Option.some.injEq]; omega))
  have hst5 := ho24.stored (m * 2 + 1) (.slice (some ⟨g3, 0, none⟩) r.bytes.length cap3)
  have ho35 := hst3.1.kept hst5.2 (.inr (by simp only [Value.ownBlock, ne_eq, Option.some.injEq]; omega))
  have e5 := hst5.1.cellAt (m * 2) (by omega)
  rw [List.getElem?_set_ne (by omega), hx0] at e5
  unfold maxLen at hcm3
  have HST5 := Lib.hid hst5
  have HE5 := Lib.hid e5
  have HO35 := Lib.hid ho35
  have HFL : Hid (flipAt r.bytes (belowK y r.bytes.length) = r.bytes.set (belowK y r.bytes.length) (r.bytes[belowK y r.bytes.length] ^^^ 1)) := Lib.hid (by rw [flipAt, getD_ltO _ _ _ hq])
  have hgg : g ≠ g3 := by omega
  have hgg' : g3 ≠ g := by omega
  generalize hqq : belowK y r.bytes.length = q at *
  have HQQ := Lib.hid hqq
  clear hown3 hb3 hgb3 hst3 ho23 ho24 hst5 ho35 hqq hy hx0 hxv hx1 hxc e1 e5
  generalize hbb : r.bytes[q] = b at *
  go_wp2_with fail
  refine HBQ.out.mono ?_
  rintro e w4 ⟨rfl, rfl⟩
  go_wp2_with fail
  generalize hw5 : (w3.setCell ⟨g3, q, none⟩ (.int .u8 (bits BinOp.xor IntKind.u8 (b.toNat : Int) 1))).setCell ⟨g, m * 2 + 1, none⟩ (.slice (some ⟨g3, 0, none⟩) r.bytes.length cap3) = w5 at *
  have HP : Hid (DamPost l x y w (.returned (.tuple #[.slice (some ⟨g, 0, none⟩) l.length cap, .string (bstr r.path)])) w5.drew) := Lib.hid (by
    have hb5 : Below w.heap.size w w5 := by
      rw [← hw5]
      exact ((HB2.out.trans (HB3.out.mono hw2)).setCell (p := ⟨g3, q, none⟩) (Nat.le_trans hw2 hgB3) _).setCell (p := ⟨g, m * 2 + 1, none⟩) hgB _
    refine ⟨_, by rw [HDP.out, if_neg hrz], ?_, hb5.drew⟩
    rw [HDL.out, if_neg hrz]
    have ho : w5.ownsRow w.heap.size 59 2 (.slice (some ⟨g, 0, none⟩) l.length cap) l.length (xs.set (m * 2 + 1) (.slice (some ⟨g3, 0, none⟩) r.bytes.length cap3)) := HST5.out.1
    have ho3 := HO35.out
    have hfl := HFL.out
    try rw [HQQ.out]
    have hread : (Rp.sl fileRp).ok w5 (· < w5.heap.size) [.slice (some ⟨g, 0, none⟩) l.length cap] (l.set m ⟨r.path, flipAt r.bytes q⟩) := by
      have hll : l.length = (l.set m ⟨r.path, flipAt r.bytes q⟩).length := by simp
      have ho' := ho
      rw [hll] at ho'
      have := files_read (l := l.set m ⟨r.path, flipAt r.bytes q⟩) ho' (fun k hk => ?_)
      · rw [← hll] at this; exact this
      · have hkl : k < l.length := by rw [hll]; exact hk
        obtain ⟨v1, a0, a1, a2, a3⟩ := HXR.out k hkl
        by_cases hkm : m = k
        · subst hkm
          rw [List.getElem_set_self]
          refine ⟨.slice (some ⟨g3, 0, none⟩) r.bytes.length cap3, ?_, ?_, ?_, ?_⟩
          · rw [List.getElem?_set_ne (by omega), a0, HFF.out]
          · rw [List.getElem?_set_self (by omega)]
          · dsimp only
            rw [hfl]
            refine Rp.u8_own (B := w2.heap.size) (e := 5) (n := r.bytes.length) ?_ (fun j hj => (ho3.lt j hj).2)
            rw [List.map_set, ← u8_flip b]
            exact ho3
          · rw [HFF.out] at a3; exact a3
        · rw [List.getElem_set_ne hkm]
          refine ⟨v1, by rw [List.getElem?_set_ne (by omega)]; exact a0, by rw [List.getElem?_set_ne (by omega)]; exact a1, Rp.ext _ a2 hb5, a3⟩
    exact Rp.ext _ hread (Below.refl _ _).drew)
  have he5 := HE5.out
  clear hw5 HST5 HO35 HE5 HST3
  refine wp_region_held_drew (S := fun w' => w'.cell? ⟨g, m * 2, none⟩ = some (.string (bstr r.path))) (by kernel_rfl) he5 (fun hHeld => ?_)
  refine wpAnyH_take (i := 0) (v := ?_) rfl (by kernel_rfl) (by kernel_rfl) (by kernel_rfl) (fun _ _ _ h => h) (Or.inl ⟨by rfl, ?_⟩) (by assumption) ?_
  rotate_left
  · (intro w hSw; (try dsimp only at hSw); go_simp; try with_reducible rfl)
  try simp only [List.getElem_toArray, List.getElem_cons_succ, List.getElem_cons_zero, Act.put, List.setIfInBounds_toArray, List.set_cons_zero, List.set_cons_succ]
  refine wpAnyH_take (i := 1) (v := ?_) rfl (by kernel_rfl) (by kernel_rfl) (by kernel_rfl) (fun _ _ _ h => h) (Or.inl ⟨by rfl, ?_⟩) (by assumption) ?_
  rotate_left
  · (intro w hSw; (try dsimp only at hSw); go_simp; try with_reducible rfl)
  try simp only [List.getElem_toArray, List.getElem_cons_succ, List.getElem_cons_zero, Act.put, List.setIfInBounds_toArray, List.set_cons_zero, List.set_cons_succ]
  refine wpAnyH_take (i := 2) (v := ?_) rfl (by kernel_rfl) (by kernel_rfl) (by kernel_rfl) (fun _ _ _ h => h) (Or.inl ⟨by rfl, ?_⟩) (by assumption) ?_
  rotate_left
  · (intro w hSw; (try dsimp only at hSw); go_simp; try with_reducible rfl)
  try simp only [List.getElem_toArray, List.getElem_cons_succ, List.getElem_cons_zero, Act.put, List.setIfInBounds_toArray, List.set_cons_zero, List.set_cons_succ]
  refine wpAnyH_take (i := 3) (v := ?_) rfl (by kernel_rfl) (by kernel_rfl) (by kernel_rfl) (fun _ _ _ h => h) (Or.inl ⟨by rfl, ?_⟩) (by assumption) ?_
  rotate_left
  · (intro w hSw; (try dsimp only at hSw); go_simp; try with_reducible rfl)
  try simp only [List.getElem_toArray, List.getElem_cons_succ, List.getElem_cons_zero, Act.put, List.setIfInBounds_toArray, List.set_cons_zero, List.set_cons_succ]
  refine wpAnyH_take (i := 4) (v := ?_) rfl (by kernel_rfl) (by kernel_rfl) (by kernel_rfl) (fun _ _ _ h => h) (Or.inl ⟨by rfl, ?_⟩) (by assumption) ?_
  rotate_left
  · (intro w hSw; (try dsimp only at hSw); go_simp; try with_reducible rfl)
  try simp only [List.getElem_toArray, List.getElem_cons_succ, List.getElem_cons_zero, Act.put, List.setIfInBounds_toArray, List.set_cons_zero, List.set_cons_succ]
  refine wpAnyH_take (i := 5) (v := ?_) rfl (by kernel_rfl) (by kernel_rfl) (by kernel_rfl) (fun _ _ _ h => h) (Or.inl ⟨by rfl, ?_⟩) (by assumption) ?_
  rotate_left
  · (intro w hSw; (try dsimp only at hSw); go_simp; try with_reducible rfl)
  try simp only [List.getElem_toArray, List.getElem_cons_succ, List.getElem_cons_zero, Act.put, List.setIfInBounds_toArray, List.set_cons_zero, List.set_cons_succ]
  refine wpAnyH_take (i := 6) (v := ?_) rfl (by kernel_rfl) (by kernel_rfl) (by kernel_rfl) (fun _ _ _ h => h) (Or.inl ⟨by rfl, ?_⟩) (by assumption) ?_
  rotate_left
  · (intro w hSw; (try dsimp only at hSw); go_simp; try with_reducible rfl)
  try simp only [List.getElem_toArray, List.getElem_cons_succ, List.getElem_cons_zero, Act.put, List.setIfInBounds_toArray, List.set_cons_zero, List.set_cons_succ]
  refine wpAnyH_take (i := 7) (v := ?_) rfl (by kernel_rfl) (by kernel_rfl) (by kernel_rfl) (fun _ _ _ h => h) (Or.inl ⟨by rfl, ?_⟩) (by assumption) ?_
  rotate_left
  · (intro w hSw; (try dsimp only at hSw); go_simp; try with_reducible rfl)
  try simp only [List.getElem_toArray, List.getElem_cons_succ, List.getElem_cons_zero, Act.put, List.setIfInBounds_toArray, List.set_cons_zero, List.set_cons_succ]
  refine wpAnyH_done (by kernel_rfl) ?_ _
  clear hHeld
  go_wp2_with fail
  go_ret2
  exact HP.out
theorem files_same {F F' : List FileR} (h : filesFault F = 0) (hl : F'.length = F.length) (hp : ∀ j (h : j < F.length), (F'[j]'(by omega)).path = F[j].path ∧ (F'[j]'(by omega)).bytes.length = F[j].bytes.length) : filesFault F' = 0 := by
  have hk := files_ok h
  refine filesFault_ok (by omega) fun j hj => ?_
  obtain ⟨a, b, c⟩ := hk.2 j (by omega)
  refine fileF_4 hj (by rw [(hp j (by omega)).1]; exact a) (by rw [(hp j (by omega)).2]; omega) ?_
  rintro ⟨h0, h1⟩
  rw [(hp j (by omega)).1, (hp (j - 1) (by omega)).1] at h1
  exact c ⟨h0, h1⟩
theorem flip_len (b : List UInt8) (q : Nat) : (flipAt b q).length = b.length := by simp [flipAt]
theorem flip_ne (x : UInt8) : x ^^^ 1 ≠ x := fun e => by
  have := congrArg UInt8.toNat e
  rw [UInt8.toNat_xor] at this
  have := xor_cancel_left (a := x.toNat) (b := (1 : UInt8).toNat) (c := 0) (by rw [this, Nat.xor_zero])
  exact absurd this (by decide)
theorem dig_flip {b : List UInt8} {q : Nat} (hq : q < b.length) : digL (flipAt b q) ≠ digL b := by
  unfold flipAt digL
  rw [getD_ltO _ _ _ hq]
  exact dig_set b q hq _ (flip_ne _)
/-- With one byte changed the files are still files; the digest of just this file is another one. -/
theorem one_files {F : List FileR} (h : filesFault F = 0) (x y : Int) (hp : damP F x ≠ []) :
    filesFault (damL F x y) = 0 ∧ ∃ m, ∃ hm : m < F.length, (damL F x y).length = F.length ∧ damP F x = F[m].path ∧ (∀ j (hj : j < F.length) (hj' : j < (damL F x y).length), j ≠ m → (damL F x y)[j] = F[j]) ∧ ∀ hm' : m < (damL F x y).length, ((damL F x y)[m]).path = F[m].path ∧ ((damL F x y)[m]).bytes.length = F[m].bytes.length ∧ digL ((damL F x y)[m]).bytes ≠ digL F[m].bytes := by
  unfold damP at hp ⊢
  unfold damL
  by_cases hz : F.length = 0
  · rw [if_pos hz] at hp; exact absurd rfl hp
  · have hm := belowK_lt x (show 0 < F.length by omega)
    simp only [if_neg hz, getD_at _ _ hm] at hp ⊢
    generalize belowK x F.length = m at hm hp ⊢
    by_cases hb : F[m].bytes.length = 0
    · rw [if_pos hb] at hp; exact absurd rfl hp
    · simp only [if_neg hb] at hp ⊢
      have hq := belowK_lt y (show 0 < F[m].bytes.length by omega)
      have hl : (F.set m ⟨F[m].path, flipAt F[m].bytes (belowK y F[m].bytes.length)⟩).length = F.length := by simp
      have hp2 : ∀ j (h : j < F.length), ((F.set m ⟨F[m].path, flipAt F[m].bytes (belowK y F[m].bytes.length)⟩)[j]'(by omega)).path = F[j].path ∧ ((F.set m ⟨F[m].path, flipAt F[m].bytes (belowK y F[m].bytes.length)⟩)[j]'(by omega)).bytes.length = F[j].bytes.length := fun j hj => by
        by_cases e : m = j
        · subst e; rw [List.getElem_set_self]; exact ⟨rfl, flip_len _ _⟩
        · rw [List.getElem_set_ne e]; exact ⟨rfl, rfl⟩
      refine ⟨files_same h hl hp2, m, hm, hl, rfl, fun j hj hj' hne => ?_, fun hm' => ?_⟩
      · rw [List.getElem_set_ne (Ne.symm hne)]
      · rw [List.getElem_set_self]
        exact ⟨rfl, flip_len _ _, dig_flip hq⟩
end Go.Proofs.YtpmonhilfpfiaaaGreatDoor
