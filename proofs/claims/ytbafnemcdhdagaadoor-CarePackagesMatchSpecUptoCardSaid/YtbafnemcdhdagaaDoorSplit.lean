/-
  'strings.Split' at '/': the library's contract at this program; 'isPath' of care.
-/
import Derived.Test.YtbafnemcdhdagaaDoorProg
import Derived.Test.YtbafnemcdhdagaaDoorRow
import Derived.Test.YtbafnemcdhdagaaDoorRows11
import Derived.Shelf.Strings.Split
namespace Go.Proofs.YtbafnemcdhdagaaDoor
open Go.RowKit Go.Shelf
set_option linter.unusedVariables false
set_option linter.unusedSimpArgs false

def splitLays_ren : Go.Shelf.Ren := ⟨fun | 138 => 160 | 143 => 161 | 146 => 107 | 195 => 183 | 197 => 153 | 217 => 169 | 218 => 184 | 219 => 185 | 221 => 134 | 224 => 194 | 225 => 195 | 260 => 179 | 266 => 188 | 267 => 196 | 268 => 159 | 314 => 199 | n => n, fun | 0 => 0 | 3 => 3 | 4 => 4 | 5 => 5 | 9 => 9 | 21 => 21 | 31 => 26 | 46 => 148 | 51 => 191 | 105 => 200 | 119 => 227 | 138 => 229 | 139 => 230 | 146 => 234 | n => n, fun | 1 => 0 | 3 => 1 | 4 => 2 | n => n⟩
theorem splitLays : Lays.n146 Tryd.prog splitLays_ren := {
  mixed := by kernel_rfl,
  f138 := Tryd.func160.trans (congrArg some (by kernel_rfl)),
  f143 := Tryd.func161.trans (congrArg some (by kernel_rfl)),
  f146 := Tryd.func107.trans (congrArg some (by kernel_rfl)),
  f195 := Tryd.func183.trans (congrArg some (by kernel_rfl)),
  f197 := Tryd.func153.trans (congrArg some (by kernel_rfl)),
  f217 := Tryd.func169.trans (congrArg some (by kernel_rfl)),
  f218 := Tryd.func184.trans (congrArg some (by kernel_rfl)),
  f219 := Tryd.func185.trans (congrArg some (by kernel_rfl)),
  f221 := Tryd.func134.trans (congrArg some (by kernel_rfl)),
  f224 := Tryd.func194.trans (congrArg some (by kernel_rfl)),
  f225 := Tryd.func195.trans (congrArg some (by kernel_rfl)),
  f260 := Tryd.func179.trans (congrArg some (by kernel_rfl)),
  f266 := Tryd.func188.trans (congrArg some (by kernel_rfl)),
  f267 := Tryd.func196.trans (congrArg some (by kernel_rfl)),
  f268 := Tryd.func159.trans (congrArg some (by kernel_rfl)),
  f314 := Tryd.func199.trans (congrArg some (by kernel_rfl)),
  t0 := Tryd.underlying0,
  a0 := Tryd.isAgg0,
  z0 := Tryd.sizeOf0,
  v0 := Tryd.zeroValue0,
  t3 := Tryd.underlying3,
  a3 := Tryd.isAgg3,
  z3 := Tryd.sizeOf3,
  v3 := Tryd.zeroValue3,
  t4 := Tryd.underlying4,
  a4 := Tryd.isAgg4,
  z4 := Tryd.sizeOf4,
  v4 := Tryd.zeroValue4,
  t5 := Tryd.underlying5,
  a5 := Tryd.isAgg5,
  z5 := Tryd.sizeOf5,
  v5 := Tryd.zeroValue5,
  t9 := Tryd.underlying9,
  a9 := Tryd.isAgg9,
  z9 := Tryd.sizeOf9,
  v9 := Tryd.zeroValue9,
  t21 := Tryd.underlying21,
  a21 := Tryd.isAgg21,
  z21 := Tryd.sizeOf21,
  v21 := Tryd.zeroValue21,
  t31 := Tryd.underlying26,
  a31 := Tryd.isAgg26,
  z31 := Tryd.sizeOf26,
  v31 := Tryd.zeroValue26,
  t46 := Tryd.underlying148,
  a46 := Tryd.isAgg148,
  z46 := Tryd.sizeOf148,
  v46 := Tryd.zeroValue148,
  t51 := Tryd.underlying191,
  a51 := Tryd.isAgg191,
  z51 := Tryd.sizeOf191,
  v51 := Tryd.zeroValue191,
  t105 := Tryd.underlying200,
  a105 := Tryd.isAgg200,
  z105 := Tryd.sizeOf200,
  v105 := Tryd.zeroValue200,
  t119 := Tryd.underlying227,
  a119 := Tryd.isAgg227,
  z119 := Tryd.sizeOf227,
  t138 := Tryd.underlying229,
  a138 := Tryd.isAgg229,
  z138 := Tryd.sizeOf229,
  v138 := Tryd.zeroValue229,
  t139 := Tryd.underlying230,
  a139 := Tryd.isAgg230,
  z139 := Tryd.sizeOf230,
  v139 := Tryd.zeroValue230,
  t146 := Tryd.underlying234,
  a146 := Tryd.isAgg234,
  z146 := Tryd.sizeOf234,
  v146 := Tryd.zeroValue234,
  g1 := by kernel_rfl,
  g3 := by kernel_rfl,
  g4 := by kernel_rfl }
/-- The variable of the library holds some number. -/
def GInt (w : World) : Prop := ∃ m, w.cell? ⟨0, 0, none⟩ = some (.int .i64 m)
theorem GInt.lt {w : World} (h : GInt w) : 0 < w.heap.size := by
  obtain ⟨m, hm⟩ := h
  exact World.block_lt_of_cell? w _ hm
theorem GInt.ext {w w' : World} (h : GInt w) (hb : Below w.heap.size w w') : GInt w' := by
  have hl := h.lt
  obtain ⟨m, hm⟩ := h
  exact ⟨m, (hb.cell (p := ⟨0, 0, none⟩) hl).trans hm⟩
/-- The parts of a path. -/
def segs (t : List UInt8) : List ByteArray := Lib.splitB ⟨#[47]⟩ 0 (Lib.countB (bstr t) ⟨#[47]⟩) (bstr t)
theorem segs_len (t : List UInt8) : (segs t).length = Lib.countB (bstr t) ⟨#[47]⟩ + 1 := Lib.splitB_all ⟨#[47]⟩ (by decide) 0 _ (bstr t) rfl
def segBad (s : ByteArray) : Bool := s.toList.isEmpty || (s.toList == [46] || s.toList == [46, 46])
def isPathB (t : List UInt8) : Bool := isRowB t 2100 && (segs t).all fun s => !segBad s
theorem split_any (t : List UInt8) (w : World) (hG : GInt w) (ht : t.length ≤ 100000) :
    Calls Tryd.prog 107 #[.string (bstr t), .string ⟨#[47]⟩] w fun e w' => e = .returned (.slice (some ⟨w.heap.size, 0, none⟩) (segs t).length (segs t).length) ∧ w' = w.alloc (.cells ((segs t).map Value.string).toArray 9) := by
  obtain ⟨m, hm⟩ := hG
  rw [segs_len]
  exact Any.strings_Split splitLays string_info (bstr t) ⟨#[47]⟩ m w (by rw [bstr_size]; omega) hm (by decide)
theorem seg_cell (l : List ByteArray) (w : World) (k : Nat) (h : k < l.length) : (w.alloc (.cells (l.map Value.string).toArray 9)).cell? ((⟨w.heap.size, 0, none⟩ : Addr).add k) = some (.string l[k]) := by
  have hadd : (⟨w.heap.size, 0, none⟩ : Addr).add k = ⟨w.heap.size, k, none⟩ := by unfold Addr.add; split <;> simp_all
  rw [hadd, cell_of_row _ _ k _ 9 (0, 0) (heap_alloc_new w _)]
  simp [h]
theorem segs_bad {l : List ByteArray} {k : Nat} (h : k < l.length) (hb : segBad l[k] = true) : (l.all fun s => !segBad s) = false := by
  cases hall : l.all fun s => !segBad s with
  | false => rfl
  | true =>
    have := List.all_eq_true.1 hall l[k] (List.getElem_mem h)
    rw [hb] at this
    cases this
set_option maxRecDepth 100000 in
set_option maxHeartbeats 1000000 in
theorem isPath_any (t : List UInt8) (w : World) (hG : GInt w) (ht : t.length ≤ 9223372036854775807) :
    Calls Tryd.prog 70 #[.string (bstr t)] w fun e w' => e = .returned (.bool (isPathB t)) ∧ Below w.heap.size w w' := by
  have hc := isRow_any t 2100 w ht
  cases hr : isRowB t 2100 with
  | false =>
    have HF : Hid (isPathB t = false) := Lib.hid (by rw [isPathB, hr]; rfl)
    rw [hr] at hc
    go_enter Tryd.func70, Tryd.ntmps70
    go_wp2_with fail
    refine hc.mono ?_
    rintro e w1 ⟨rfl, rfl⟩
    clear hc
    go_wp2_with fail
    go_ret
    exact ⟨by rw [HF.out]; rfl, Below.refl _ _⟩
  | true =>
    have hlen := isRowB_len hr
    have HF : Hid (isPathB t = (segs t).all fun s => !segBad s) := Lib.hid (by rw [isPathB, hr]; rfl)
    rw [hr] at hc
    have HG := Lib.hid hG
    clear hG
    go_enter Tryd.func70, Tryd.ntmps70
    go_wp2_with fail
    refine hc.mono ?_
    rintro e w1 ⟨rfl, rfl⟩
    clear hc
    go_wp2_with fail
    refine (split_any t w HG.out (by omega)).mono ?_
    rintro e w2 ⟨rfl, hw2⟩
    have hb2 : Below w.heap.size w w2 := by rw [hw2]; exact (Below.refl _ w).alloc (Nat.le_refl _) _
    have HB2 := Lib.hid hb2
    have hlt : (segs t).length ≤ 9223372036854775000 := by
      have := segs_len t
      have := Lib.countB_le ⟨#[47]⟩ (by decide) (bstr t).size (bstr t) (Nat.le_refl _)
      rw [bstr_size] at this
      omega
    generalize segs t = l at *
    have HC := Lib.hid (fun k h => by have := seg_cell l w k h; rw [← hw2] at this; exact this : ∀ k, (h : k < l.length) → w2.cell? ((⟨w.heap.size, 0, none⟩ : Addr).add k) = some (.string l[k]))
    obtain ⟨ad, had⟩ : ∃ ad : Addr, ad = ⟨w.heap.size, 0, none⟩ := ⟨_, rfl⟩
    rw [← had] at HC ⊢
    clear hb2 hw2 had
    go_wp2_with fail
    go_loopw [11] (fun i wr => ∃ k : Nat, k ≤ l.length ∧ i = .int .i64 k ∧ Hid (∀ s ∈ l.take k, segBad s = false) ∧ wr = w2) (fun i _ => l.length - (intOf i).toNat)
    case atStart => exact ⟨0, by omega, rfl, Lib.hid (fun s hs => by simp at hs), rfl⟩
    case round =>
      obtain ⟨k, hk, rfl, HS, rfl⟩ := hrel
      by_cases hlt : k < l.length
      · have hcell := HC.out k hlt
        cases b1 : l[k].toList.isEmpty with
        | true =>
          have HF2 : Hid (isPathB t = false) := Lib.hid (by rw [HF.out]; exact segs_bad hlt (by rw [segBad, b1]; rfl))
          generalize l[k] = s at *
          go_wp2_with fail
          go_ret
          exact ⟨by rw [HF2.out]; rfl, HB2.out⟩
        | false =>
        cases b2 : l[k].toList == [46] with
        | true =>
          have HF2 : Hid (isPathB t = false) := Lib.hid (by rw [HF.out]; exact segs_bad hlt (by rw [segBad, b1, b2]; rfl))
          generalize l[k] = s at *
          go_wp2_with fail
          go_ret
          exact ⟨by rw [HF2.out]; rfl, HB2.out⟩
        | false =>
        cases b3 : l[k].toList == [46, 46] with
        | true =>
          have HF2 : Hid (isPathB t = false) := Lib.hid (by rw [HF.out]; exact segs_bad hlt (by rw [segBad, b1, b2, b3]; rfl))
          generalize l[k] = s at *
          go_wp2_with fail
          go_ret
          exact ⟨by rw [HF2.out]; rfl, HB2.out⟩
        | false =>
          have HS2 : Hid (∀ s ∈ l.take (k + 1), segBad s = false) := Lib.hid (fun s hs => by
            rw [List.take_succ_eq_append_getElem hlt, List.mem_append, List.mem_singleton] at hs
            rcases hs with hs | rfl
            · exact HS.out s hs
            · rw [segBad, b1, b2, b3]; rfl)
          generalize l[k] = s at *
          go_wp2_with fail
          go_roundw
          case rel => exact ⟨k + 1, by omega, by go_num, HS2, trivial⟩
          case measure => simp [intOf]; omega
      · have HF2 : Hid (isPathB t = true) := Lib.hid (by
          rw [HF.out, List.all_eq_true]
          intro s hs
          rw [HS.out s (by rw [List.take_of_length_le (by omega)]; exact hs)]; rfl)
        go_wp2_with fail
        go_ret
        exact ⟨by rw [HF2.out]; rfl, HB2.out⟩
end Go.Proofs.YtbafnemcdhdagaaDoor
