/-
  'PackageOf' of care.
-/
import Derived.Test.YtnkdcmibafjplaaGreatDoorProg
import Derived.Test.YtnkdcmibafjplaaGreatDoorPack
import Derived.Test.YtnkdcmibafjplaaGreatDoorMaps
import Derived.Deep.RegionHeld3
import Derived.Laws.ResultCell
import Derived.Laws.Rows
namespace Go.Proofs.YtnkdcmibafjplaaGreatDoor
open Go.RowKit
set_option linter.unusedVariables false
set_option linter.unusedSimpArgs false

def entCells (x : Ent) : List Value := [.string (bstr x.path), .int .i64 x.size, .string (bstr x.digest)]
theorem ent_info : (Tryz.prog.info? 66).map (fun i => (i.zero, i.size, i.bytes)) = some (some (.agg #[.string ⟨#[]⟩, .int .i64 0, .string ⟨#[]⟩]), 3, 40) := by kernel_rfl
def listedOf (f : FileR) : Ent := ⟨f.path, f.bytes.length, digL f.bytes⟩
theorem ents_read {w : World} {B : Nat} {v : Value} {l : List Ent} {n : Nat} (h : w.ownsRow B 66 3 v n (l.flatMap entCells)) (hl : ∀ s ∈ l, s.path.length ≤ maxLen ∧ s.digest.length ≤ maxLen ∧ (Lit.int .i64 s.size).wf = true) : (Rp.sl entRp).ok w (· < w.heap.size) [v] l :=
  Rp.of_ownN (R := entRp) (by decide) (fun _ => rfl) h (fun g hg => (h.lt g hg).2) (fun s hs => ⟨[_], [_, _], rfl, ⟨rfl, (hl s hs).1⟩, ⟨[_], [_], rfl, ⟨rfl, (hl s hs).2.2⟩, ⟨rfl, (hl s hs).2.1⟩⟩⟩)
def pkFault (n : List UInt8) (l : List FileR) : Int := if isNm n = false then 5 else filesFault l
def pkName (n : List UInt8) (l : List FileR) : List UInt8 := if pkFault n l = 0 then n else []
def pkEnts (n : List UInt8) (l : List FileR) : List Ent := if pkFault n l = 0 then l.map listedOf else []
def PkgPost (n : List UInt8) (l : List FileR) (w : World) (e : Ending) (w' : World) : Prop :=
  ∃ v, e = .returned (.tuple #[.agg #[.string (bstr (pkName n l)), v], .int .i64 (pkFault n l)]) ∧ (Rp.sl entRp).ok w' (· < w'.heap.size) [v] (pkEnts n l) ∧ Below w.heap.size w w'
theorem PkgPost.bad {n : List UInt8} {l : List FileR} {w w' : World} {f : Int} (h : pkFault n l = f) (h0 : f ≠ 0) (hb : Below w.heap.size w w') : PkgPost n l w (.returned (.tuple #[.agg #[.string ⟨#[]⟩, .slice none 0 0], .int .i64 f])) w' :=
  ⟨_, by rw [pkName, if_neg (by rw [h]; exact h0), h]; rfl, by rw [pkEnts, if_neg (by rw [h]; exact h0)]; exact Rp.sl_nil _ _ _, hb⟩
theorem files_ok {l : List FileR} (h : filesFault l = 0) : l.length ≤ 500 ∧ ∀ j, (hj : j < l.length) → isPathB l[j].path = true ∧ l[j].bytes.length ≤ 100000 ∧ ¬ (0 < j ∧ sle l[j].path (l[j - 1]'(by omega)).path = true) := by
  unfold filesFault at h
  split at h
  · omega
  · refine ⟨by omega, fun j hj => ?_⟩
    have hf := firstF_all h j hj
    unfold fileF at hf
    rw [getD_at _ _ hj, getD_at _ _ (show j - 1 < l.length by omega)] at hf
    split at hf
    · omega
    · rename_i h1
      split at hf
      · omega
      · rename_i h2
        split at hf
        · omega
        · rename_i h3
          exact ⟨by simpa using h1, by omega, h3⟩
theorem isPathB_len {t : List UInt8} (h : isPathB t = true) : 1 ≤ t.length ∧ t.length ≤ 2100 := by
  unfold isPathB at h
  rw [Bool.and_eq_true] at h
  have := isRowB_len h.1
  omega
theorem results_row2 {P : Program} {fn : Func} {p u : Tmp} {ty : TypeId} (h : fn.results = #[.cell p ty, .tmp u]) (tmps : Array Value) (w : World) (g : Nat) (t : TypeId) (cs : List Value) (d : TypeDesc)
    (hp : tmps.getD p undef = .pointer (some ⟨g, 0, none⟩)) (hg : Blk w g t cs)
    (hu : P.underlying ty = some d) (hd : (match d with | .struct _ | .array _ _ => true | _ => false) = true) (hi : (P.info? ty).map (·.size) = some cs.toArray.size) :
    (results fn tmps).run P w = .ok (.tuple #[.agg cs.toArray, tmps.getD u undef]) w := by
  rw [results_cell_tmp h, hp]
  simp only [asAddr, Sem.run_pure, Result.andThen_ok, run_loadVar_row w g t ty cs.toArray (0, 0) d hg hu hd hi]
theorem pack_info : (Tryz.prog.info? 40).map (·.size) = some 2 := by kernel_rfl
structure PkSt (w2 : World) (n : List UInt8) (k : Nat) (vE : Value) (xs : List Value) (F : Nat) (u0 u1 : Value) (w : World) : Prop where
  blk : Blk w w2.heap.size 40 [.string (bstr n), vE]
  row : w.ownsRow w2.heap.size 66 3 vE k xs
  below : Below w2.heap.size w2 w
  file : Blk w F 52 [u0, u1]
theorem Blk.notRow {w : World} {g : Nat} {t : TypeId} {cs : List Value} (h : Blk w g t cs) {B : Nat} {e : TypeId} {size k : Nat} {v : Value} {xs : List Value} (hr : w.ownsRow B e size v k xs) (hte : t ≠ e) : some g ≠ v.ownBlock := by
  rcases hr.2 with ⟨rfl, _⟩ | ⟨g', cap, cur, rfl, _, hgb, _⟩
  · simp [Value.ownBlock]
  · intro e'
    obtain rfl : g = g' := by simpa [Value.ownBlock] using e'
    have := (show w.heap[g]? = _ from h).symm.trans hgb
    simp only [Option.some.injEq, Obj.cells.injEq] at this
    exact hte this.2.1
theorem Blk.alloc_o {w : World} {g : Nat} {t : TypeId} {cs : List Value} (h : Blk w g t cs) (o : Obj) : Blk (w.alloc o) g t cs := (Below.heap_alloc w o g h.lt).trans h
theorem Blk.set_o {w : World} {g g' i : Nat} {t : TypeId} {cs : List Value} (h : Blk w g t cs) (hne : g ≠ g') (v : Value) : Blk (w.setCell ⟨g', i, none⟩ v) g t cs := (Below.heap_setCell _ _ _ g hne).trans h
theorem Blk.grown_ {w w' : World} {r : Option Nat} {g : Nat} {t : TypeId} {cs : List Value} (h : Blk w g t cs) (hg : w.grownBy w' r) (hne : some g ≠ r) : Blk w' g t cs := (hg.block g h.lt hne).trans h
section
variable {w2 w w' : World} {n : List UInt8} {k F : Nat} {vE u0 u1 : Value} {xs : List Value}
theorem PkSt.start {wr : World} (hK : Blk wr w2.heap.size 40 [.string (bstr n), vE]) (hO : wr.ownsRow w2.heap.size 66 3 vE k xs) (hB : Below w2.heap.size w2 wr) (u0 u1 : Value) :
    PkSt w2 n k vE xs wr.heap.size u0 u1 (wr.alloc (.cells #[u0, u1] 52)) :=
  ⟨hK.alloc_o _, hO.kept (below_grown ((Below.refl _ _).alloc (Nat.le_refl _) _)) (by cases hv : vE.ownBlock <;> simp), hB.alloc hB.size _, Blk.new wr _ [u0, u1]⟩
theorem PkSt.call (h : PkSt w2 n k vE xs F u0 u1 w) (hb : Below w.heap.size w w') : PkSt w2 n k vE xs F u0 u1 w' :=
  have g := below_grown hb
  ⟨h.blk.grown_ g (by simp), h.row.kept g (by cases hv : vE.ownBlock <;> simp), h.below.trans (hb.mono h.below.size), h.file.grown_ g (by simp)⟩
theorem PkSt.drew (h : PkSt w2 n k vE xs F u0 u1 w) : PkSt w2 n k vE xs F u0 u1 w.drew := h.call (Below.refl _ _).drew
theorem PkSt.alloc (h : PkSt w2 n k vE xs F u0 u1 w) (o : Obj) : PkSt w2 n k vE xs F u0 u1 (w.alloc o) := h.call ((Below.refl _ _).alloc (Nat.le_refl _) o)
theorem PkSt.cellsF (h : PkSt w2 n k vE xs F u0 u1 w) : w.cell? ⟨F, 0, none⟩ = some u0 ∧ w.cell? ⟨F, 1, none⟩ = some u1 := ⟨h.file.cell 0, h.file.cell 1⟩
theorem PkSt.cellP (h : PkSt w2 n k vE xs F u0 u1 w) : w.cell? ⟨w2.heap.size, 1, none⟩ = some vE := h.blk.cell 1
theorem PkSt.cellsF_alloc (h : PkSt w2 n k vE xs F u0 u1 w) (o : Obj) : (w.alloc o).cell? ⟨F, 0, none⟩ = some u0 ∧ (w.alloc o).cell? ⟨F, 1, none⟩ = some u1 := (h.alloc o).cellsF
theorem PkSt.cellP_alloc (h : PkSt w2 n k vE xs F u0 u1 w) (o : Obj) : (w.alloc o).cell? ⟨w2.heap.size, 1, none⟩ = some vE := (h.alloc o).cellP
theorem PkSt.le (h : PkSt w2 n k vE xs F u0 u1 w) : w2.heap.size ≤ w.heap.size := h.below.size
theorem PkSt.bytes (h : PkSt w2 n k vE xs F u0 u1 w) {wr : World} (hB : Below w2.heap.size w2 wr) {α : Type} {R : Rp α} {us : List Value} {a : α} (hv : R.ok wr (· < w2.heap.size) us a) : R.ok w (· < w2.heap.size) us a :=
  R.keep hv (fun b hb => (h.below.block b hb).trans (hB.block b hb).symm) (fun b hb => hb)
theorem PkSt.cellsF_app (h : PkSt w2 n k vE xs F u0 u1 w) (hg : w.grownBy w' vE.ownBlock) : w'.cell? ⟨F, 0, none⟩ = some u0 ∧ w'.cell? ⟨F, 1, none⟩ = some u1 :=
  have hf := h.file.grown_ hg (h.file.notRow h.row (by decide))
  ⟨hf.cell 0, hf.cell 1⟩
theorem PkSt.push (h : PkSt w2 n k vE xs F u0 u1 w) {v' : Value} {m : Nat} {ys : List Value} (hr : w'.ownsRow w2.heap.size 66 3 v' m ys) (hg : w.grownBy w' vE.ownBlock) (hb : ∀ w0, Below w2.heap.size w0 w → Below w2.heap.size w0 w') :
    w'.cell? ⟨w2.heap.size, 1, none⟩ = some vE ∧ w'.frozen? ⟨w2.heap.size, 1, none⟩ = false ∧ PkSt w2 n m v' ys F u0 u1 (w'.setCell ⟨w2.heap.size, 1, none⟩ v') := by
  have hk := h.blk.grown_ hg (h.blk.notRow h.row (by decide))
  have hf := h.file.grown_ hg (h.file.notRow h.row (by decide))
  refine ⟨hk.cell 1, hk.frozen 1, hk.set_ 1 v', ?_, (hb _ h.below).setCell (p := ⟨w2.heap.size, 1, none⟩) (Nat.le_refl _) _, hf.set_o (hf.ne hk (by decide)) _⟩
  refine hr.kept (row := some w2.heap.size) ⟨rfl, rfl, rfl, ((Below.refl w2.heap.size w').setCell (p := ⟨w2.heap.size, 1, none⟩) (Nat.le_refl _) v').size, fun k _ hk => Below.heap_setCell _ _ _ k (fun e => hk (by rw [e]))⟩ (.inr (hk.notRow hr (by decide)).symm)
end
theorem PkgPost.good {n : List UInt8} {l : List FileR} {w w2 wr : World} {v : Value} (hlt : w.heap.size < w2.heap.size) (hB2 : Below w.heap.size w w2) (hpf : pkFault n l = filesFault l) (hF : filesFault l = 0)
    (hok : l.length ≤ 500 ∧ ∀ j, (hj : j < l.length) → isPathB l[j].path = true ∧ l[j].bytes.length ≤ 100000 ∧ ¬ (0 < j ∧ sle l[j].path (l[j - 1]'(by omega)).path = true))
    (hB : Below w2.heap.size w2 wr) (hO : wr.ownsRow w2.heap.size 66 3 v l.length ((l.map listedOf).flatMap entCells)) :
    PkgPost n l w (.returned (.tuple #[.agg #[.string (bstr n), v], .int .i64 0])) ((wr.setCell ⟨w.heap.size, 0, none⟩ (.string (bstr n))).setCell ⟨w.heap.size, 1, none⟩ v) := by
  have h0 : pkFault n l = 0 := hpf.trans hF
  refine ⟨v, by rw [pkName, if_pos h0, h0], ?_, ((hB2.trans (hB.mono (Nat.le_of_lt hlt))).setCell (p := ⟨w.heap.size, 0, none⟩) (Nat.le_refl _) _).setCell (p := ⟨w.heap.size, 1, none⟩) (Nat.le_refl _) _⟩
  rw [pkEnts, if_pos h0]
  have hg : ∀ v', wr.grownBy ((wr.setCell ⟨w.heap.size, 0, none⟩ (.string (bstr n))).setCell ⟨w.heap.size, 1, none⟩ v') (some w.heap.size) := fun v' => by
    have hs := ((Below.refl w.heap.size wr).setCell (p := ⟨w.heap.size, 0, none⟩) (Nat.le_refl _) (.string (bstr n))).setCell (p := ⟨w.heap.size, 1, none⟩) (Nat.le_refl _) v'
    exact ⟨rfl, rfl, rfl, hs.size, fun k _ hk => (Below.heap_setCell _ _ _ k (fun e => hk (by rw [e]))).trans (Below.heap_setCell _ _ _ k (fun e => hk (by rw [e])))⟩
  have hne : some w.heap.size ≠ v.ownBlock := by
    intro e
    have := (hO.lt _ e.symm).1
    omega
  have hO' := hO.kept (hg v) (.inr hne.symm)
  have e : l.length = (l.map listedOf).length := by simp
  rw [e] at hO'
  refine ents_read hO' fun s hs => ?_
  obtain ⟨x, hx, rfl⟩ := List.mem_map.1 hs
  obtain ⟨j, hj, rfl⟩ := List.mem_iff_getElem.1 hx
  have h1 := hok.2 j hj
  have h2 := isPathB_len h1.1
  refine ⟨by unfold maxLen; show (l[j]).path.length ≤ _; omega, by unfold maxLen; show (hexL (fnv (l[j]).bytes) 16).length ≤ _; rw [hexL_len]; omega, ?_⟩
  show (Lit.int .i64 ((l[j]).bytes.length : Int)).wf = true
  exact WalkArith.wf_i64 (by omega)
set_option maxRecDepth 100000 in
set_option maxHeartbeats 4000000 in
theorem packageOf_any (n : List UInt8) (v : Value) (l : List FileR) (w : World) (h : (Rp.sl fileRp).ok w (· < w.heap.size) [v] l) (hG : GInt w) (hn : n.length ≤ 9223372036854775807) :
    Calls Tryz.prog 10 #[.string (bstr n), v] w (PkgPost n l w) := by
  obtain ⟨A, c, rfl, hl, hc, _⟩ := Rp.sl_open h
  unfold maxLen at hc
  have hab := (Below.refl w.heap.size w).alloc (Nat.le_refl _) (.cells #[.string ⟨#[]⟩, .slice none 0 0] 40)
  have hkb := Blk.new w 40 [.string ⟨#[]⟩, .slice none 0 0]
  have H := Lib.hid (Rp.ext _ h hab)
  have HG := Lib.hid (hG.ext hab)
  have HAB := Lib.hid hab
  have HKB := Lib.hid hkb
  have hlt0 : w.heap.size < (w.alloc (.cells #[.string ⟨#[]⟩, .slice none 0 0] 40)).heap.size := by simp
  clear h hG hab hkb
  go_enter Tryz.func10, Tryz.ntmps10
  go_wp2_with fail
  refine (isName_any n _ hn).mono ?_
  rintro e w1 ⟨rfl, hb1⟩
  have HB1 := Lib.hid (ext_trans HAB.out hb1)
  have H1 := Lib.hid (Rp.ext _ H.out hb1)
  have HG1 := Lib.hid (HG.out.ext hb1)
  have hk1 := HKB.out.same (same_below hb1) hlt0
  have hlw1 : w.heap.size < w1.heap.size := by have := hb1.size; omega
  have HK1 := Lib.hid hk1
  clear H HG HAB HKB hlt0 hb1
  have k0 : w1.cell? ⟨w.heap.size, 0, none⟩ = some (.string ⟨#[]⟩) := hk1.cell 0
  have k1 : w1.cell? ⟨w.heap.size, 1, none⟩ = some (.slice none 0 0) := hk1.cell 1
  have z0 : w1.frozen? ⟨w.heap.size, 0, none⟩ = false := hk1.frozen 0
  have z1 : w1.frozen? ⟨w.heap.size, 1, none⟩ = false := hk1.frozen 1
  clear hk1
  cases hnm : isNm n with
  | false =>
    have hbk := (HK1.out.set_ 0 (.string ⟨#[]⟩)).set_ 1 (.slice none 0 0)
    have HBK := Lib.hid hbk
    clear hbk
    have HP := Lib.hid (PkgPost.bad (n := n) (l := l) (w := w) (f := 5) (by rw [pkFault, if_pos hnm]) (by decide) ((HB1.out.setCell (p := ⟨w.heap.size, 0, none⟩) (Nat.le_refl _) (.string ⟨#[]⟩)).setCell (p := ⟨w.heap.size, 1, none⟩) (Nat.le_refl _) (.slice none 0 0)))
    go_wp2_with fail
    refine bodyPost_ret (results_row2 rfl _ _ w.heap.size 40 [.string ⟨#[]⟩, .slice none 0 0] _ rfl HBK.out Tryz.underlying40 rfl pack_info) rfl ?_
    exact HP.out
  | true =>
  have HPF : Hid (pkFault n l = filesFault l) := Lib.hid (by rw [pkFault, if_neg (by rw [hnm]; decide)])
  clear hnm
  go_wp2_with fail
  refine (checkFiles_any _ l w1 H1.out HG1.out).mono ?_
  rintro e w2 ⟨rfl, hb2⟩
  have HB2 := Lib.hid (ext_trans HB1.out hb2)
  have H2 := Lib.hid (Rp.ext _ H1.out hb2)
  have hk2 := HK1.out.same (same_below hb2) hlw1
  have hlw2 : w.heap.size < w2.heap.size := by have := hb2.size; omega
  have HK2 := Lib.hid hk2
  have m0 : w2.cell? ⟨w.heap.size, 0, none⟩ = some (.string ⟨#[]⟩) := hk2.cell 0
  have m1 : w2.cell? ⟨w.heap.size, 1, none⟩ = some (.slice none 0 0) := hk2.cell 1
  have y0 : w2.frozen? ⟨w.heap.size, 0, none⟩ = false := hk2.frozen 0
  have y1 : w2.frozen? ⟨w.heap.size, 1, none⟩ = false := hk2.frozen 1
  clear hk2 hb2 k0 k1 z0 z1 H1 HG1 HK1 HB1
  by_cases hf : filesFault l = 0
  case neg =>
    have hbk := (HK2.out.set_ 0 (.string ⟨#[]⟩)).set_ 1 (.slice none 0 0)
    have HBK := Lib.hid hbk
    clear hbk
    have HP := Lib.hid (PkgPost.bad (n := n) (l := l) (w := w) (f := filesFault l) HPF.out hf ((HB2.out.setCell (p := ⟨w.heap.size, 0, none⟩) (Nat.le_refl _) (.string ⟨#[]⟩)).setCell (p := ⟨w.heap.size, 1, none⟩) (Nat.le_refl _) (.slice none 0 0)))
    generalize filesFault l = f at *
    go_wp2_with fail
    refine bodyPost_ret (results_row2 rfl _ _ w.heap.size 40 [.string ⟨#[]⟩, .slice none 0 0] _ rfl HBK.out Tryz.underlying40 rfl pack_info) rfl ?_
    exact HP.out
  rw [hf]
  have HF := Lib.hid hf
  have HOK := Lib.hid (files_ok hf)
  have hl5 := (files_ok hf).1
  have hkp := Blk.new w2 40 [.string (bstr n), .slice none 0 0]
  have hbp := (Below.refl w2.heap.size w2).alloc (Nat.le_refl _) (.cells #[.string (bstr n), .slice none 0 0] 40)
  have HKP := Lib.hid hkp
  have HBP := Lib.hid hbp
  clear hkp hbp hf m0 m1 y0 y1
  go_wp2_with fail
  go_loopw [24] (fun vi wr => ∃ (k : Nat) (vE : Value), k ≤ l.length ∧ vi = .int .i64 k ∧ Hid (Blk wr w2.heap.size 40 [.string (bstr n), vE]) ∧ Hid (wr.ownsRow w2.heap.size 66 3 vE k (((l.take k).map listedOf).flatMap entCells)) ∧ Hid (Below w2.heap.size w2 wr)) (fun vi _ => l.length - (intOf vi).toNat)
  case atStart => exact ⟨0, _, by omega, rfl, HKP, World.ownsRow_nil _ _ _ _, HBP⟩
  case round =>
    clear HKP HBP
    obtain ⟨k, vE, hk, rfl, HK, HO, HB⟩ := hrel
    have hwsz := HB.out.size
    obtain ⟨AE, cE, rfl, _⟩ := own_form HO.out
    by_cases hlt : k < l.length
    · obtain ⟨ad, c', v1, e1, hadb, c0, c1, hz1, hv1⟩ := file_at (Rp.below _ H2.out HB.out) hlt
      cases e1
      obtain ⟨A1, cb, rfl, hcb, hcbm, _⟩ := Rp.sl_open hv1
      unfold maxLen at hcbm
      have HV1 := Lib.hid hv1
      have HST : Hid ((((l.take (k + 1)).map listedOf).flatMap entCells) = ((l.take k).map listedOf).flatMap entCells ++ entCells (listedOf l[k])) := Lib.hid (by rw [List.take_succ_eq_append_getElem hlt, List.map_append, List.flatMap_append]; simp)
      clear hadb hv1
      generalize l[k] = x at *
      have HD := Lib.hid (PkSt.start HK.out HO.out HB.out (.string (bstr x.path)) (.slice A1 x.bytes.length cb))
      have c0 := HD.out.cellsF.1
      have c1 := HD.out.cellsF.2
      have hA := HD.out.cellP
      have hm2 : 4294967296 ≤ maxLen := by unfold maxLen; omega
      go_wp2_with fail
      refine wp_region_held_drew (S := fun w' => w'.cell? ⟨wr.heap.size, 0, none⟩ = some (.string (bstr x.path)) ∧ w'.cell? ⟨wr.heap.size, 1, none⟩ = some (.slice A1 x.bytes.length cb)) (by kernel_rfl) HD.out.drew.cellsF (fun hHeld => ?_)
      have HDD := Lib.hid HD.out.drew
      clear HD c0 c1 hA
      generalize World.drew _ = wd at *
      have i1 := HDD.out.cellP
      have HVD := Lib.hid (HDD.out.bytes HB.out HV1.out)
      refine wpAnyH_take (i := 0) (v := ?_) rfl (by kernel_rfl) (by kernel_rfl) (by kernel_rfl) (fun _ _ _ h => h) (Or.inl ⟨by rfl, ?_⟩) (by assumption) ?_
      rotate_left
      · (intro w hSw; (try dsimp only at hSw); go_simp; try with_reducible rfl)
      try simp only [List.getElem_toArray, List.getElem_cons_succ, List.getElem_cons_zero, Act.put, List.setIfInBounds_toArray, List.set_cons_zero, List.set_cons_succ]
      refine wpAnyH_take (i := 2) (v := ?_) rfl (by kernel_rfl) (by kernel_rfl) (by kernel_rfl) (fun _ _ _ h => h) (Or.inl ⟨by rfl, ?_⟩) (by assumption) ?_
      rotate_left
      · (intro w hSw; (try dsimp only at hSw); go_simp; try with_reducible rfl)
      try simp only [List.getElem_toArray, List.getElem_cons_succ, List.getElem_cons_zero, Act.put, List.setIfInBounds_toArray, List.set_cons_zero, List.set_cons_succ]
      refine wpAnyH_take (i := 3) (v := ?_) rfl (by kernel_rfl) (by kernel_rfl) (by kernel_rfl) (fun _ _ _ h => h) (Or.inl ⟨by rfl, ?_⟩) (by assumption) ?_
      rotate_left
      · (intro w hSw; (try dsimp only at hSw); go_simp; try with_reducible rfl)
      try simp only [List.getElem_toArray, List.getElem_cons_succ, List.getElem_cons_zero, Act.put, List.setIfInBounds_toArray, List.set_cons_zero, List.set_cons_succ]
      refine wpAnyH_take (i := 4) (v := ?_) rfl (by kernel_rfl) (by kernel_rfl) (by kernel_rfl) (fun _ _ _ h => h) (Or.inl ⟨by rfl, ?_⟩) (by assumption) ?_
      rotate_left
      · (intro w hSw; (try dsimp only at hSw); go_simp; try with_reducible rfl)
      try simp only [List.getElem_toArray, List.getElem_cons_succ, List.getElem_cons_zero, Act.put, List.setIfInBounds_toArray, List.set_cons_zero, List.set_cons_succ]
      refine wpAnyH_take (i := 5) (v := ?_) rfl (by kernel_rfl) (by kernel_rfl) (by kernel_rfl) (fun _ _ _ h => h) (Or.inl ⟨by rfl, ?_⟩) (by assumption) ?_
      rotate_left
      · (intro w hSw; (try dsimp only at hSw); go_simp; try with_reducible rfl)
      try simp only [List.getElem_toArray, List.getElem_cons_succ, List.getElem_cons_zero, Act.put, List.setIfInBounds_toArray, List.set_cons_zero, List.set_cons_succ]
      refine wpAnyH_take (i := 6) (v := ?_) rfl (by kernel_rfl) (by kernel_rfl) (by kernel_rfl) (fun _ _ _ h => h) (Or.inl ⟨by rfl, ?_⟩) (by assumption) ?_
      rotate_left
      · (intro w hSw; (try dsimp only at hSw); go_simp; try with_reducible rfl)
      try simp only [List.getElem_toArray, List.getElem_cons_succ, List.getElem_cons_zero, Act.put, List.setIfInBounds_toArray, List.set_cons_zero, List.set_cons_succ]
      refine wpAnyH_take (i := 7) (v := ?_) rfl (by kernel_rfl) (by kernel_rfl) (by kernel_rfl) (fun _ _ _ h => h) (Or.inl ⟨by rfl, ?_⟩) (by assumption) ?_
      rotate_left
      · (intro w hSw; (try dsimp only at hSw); go_simp; try with_reducible rfl)
      try simp only [List.getElem_toArray, List.getElem_cons_succ, List.getElem_cons_zero, Act.put, List.setIfInBounds_toArray, List.set_cons_zero, List.set_cons_succ]
      refine wpAnyH_take (i := 8) (v := ?_) rfl (by kernel_rfl) (by kernel_rfl) (by kernel_rfl) (fun _ _ _ h => h) (Or.inl ⟨by rfl, ?_⟩) (by assumption) ?_
      rotate_left
      · (intro w hSw; (try dsimp only at hSw); go_simp; try with_reducible rfl)
      try simp only [List.getElem_toArray, List.getElem_cons_succ, List.getElem_cons_zero, Act.put, List.setIfInBounds_toArray, List.set_cons_zero, List.set_cons_succ]
      refine wpAnyH_ready (rs := [1, 9]) (by kernel_rfl) (by simp) ?_
      refine AllReadyH.cons rfl (fun K hK => ?_) (AllReadyH.cons rfl (fun K hK => ?_) AllReadyH.nil)
      · rw [if_pos (by rfl)]
        simp only [List.getElem_toArray, List.getElem_cons_succ, List.getElem_cons_zero]
        go_simp
        refine hK.out _ _ hHeld (fun hHeld => ?_)
        clear hK K
        try simp only [List.getElem_toArray, List.getElem_cons_succ, List.getElem_cons_zero, Act.put, List.setIfInBounds_toArray, List.set_cons_zero, List.set_cons_succ]
        refine wpAnyH_ready (rs := [9]) (by kernel_rfl) (by simp) ?_
        refine AllReadyH.cons rfl (fun K hK => ?_) AllReadyH.nil
        rw [if_pos (by rfl)]
        simp only [List.getElem_toArray, List.getElem_cons_succ, List.getElem_cons_zero]
        go_simp
        go_at_call 11
        refine (digest_any _ _ _ _ HVD.out).mono ?_
        rintro e w4 ⟨rfl, hb4⟩
        have HST4 := Lib.hid (HDD.out.call hb4)
        clear HDD HVD
        have j1 := HST4.out.cellP
        have hs4 := HST4.out.le
        clear hb4
        show K _ w4
        refine hK.out _ _ HST4.out.cellsF (fun hHeld => ?_)
        clear hK K
        try simp only [List.getElem_toArray, List.getElem_cons_succ, List.getElem_cons_zero, Act.put, List.setIfInBounds_toArray, List.set_cons_zero, List.set_cons_succ]
        refine wpAnyH_take (i := 10) (v := ?_) rfl (by kernel_rfl) (by kernel_rfl) (by kernel_rfl) (fun _ _ _ h => h) (Or.inl ⟨by rfl, ?_⟩) (by assumption) ?_
        rotate_left
        · (intro w hSw; (try dsimp only at hSw); go_simp; try with_reducible rfl)
        try simp only [List.getElem_toArray, List.getElem_cons_succ, List.getElem_cons_zero, Act.put, List.setIfInBounds_toArray, List.set_cons_zero, List.set_cons_succ]
        refine wpAnyH_ready (rs := [11]) (by kernel_rfl) (by simp) ?_
        refine AllReadyH.cons rfl (fun K hK => ?_) AllReadyH.nil
        have hcA := HST4.out.cellP_alloc (.cells #[.string (bstr x.path), .int .i64 x.bytes.length, .string (bstr (hexL (fnv x.bytes) 16))] 66)
        rw [if_pos (by rfl)]
        simp only [List.getElem_toArray, List.getElem_cons_succ, List.getElem_cons_zero]
        go_simp
        refine hK.out _ _ (HST4.out.cellsF_alloc _) (fun hHeld => ?_)
        clear hK K
        try simp only [List.getElem_toArray, List.getElem_cons_succ, List.getElem_cons_zero, Act.put, List.setIfInBounds_toArray, List.set_cons_zero, List.set_cons_succ]
        refine wpAnyH_ready (rs := [12]) (by kernel_rfl) (by simp) ?_
        refine AllReadyH.cons rfl (fun K hK => ?_) AllReadyH.nil
        refine step_app_new (w := w4) (by rfl) (.tmp 29) (.tmp 39) 38 (by rfl) 66 _ 3 40 Tryz.underlying38 ent_info rfl (by decide) (entCells (listedOf x)) 0 rfl HST4.out.row HST4.out.le rfl rfl rfl (by decide) (by simp [entCells, Value.oneCell']) (by unfold maxLen; omega) (by omega) ?_
        intro g1 cc1 w9 HO9 HG9 HB9 HL9
        have HP9 := Lib.hid (HST4.out.push HO9.out HG9.out HB9.out)
        have HS9 := Lib.hid (HST4.out.cellsF_app HG9.out)
        have l1 := HP9.out.1
        have lz := HP9.out.2.1
        have HQ9 := Lib.hid HP9.out.2.2
        clear HP9 HO9 HG9 HB9 HL9
        refine hK.out _ _ HS9.out (fun hHeld => ?_)
        clear hK K
        try simp only [List.getElem_toArray, List.getElem_cons_succ, List.getElem_cons_zero, Act.put, List.setIfInBounds_toArray, List.set_cons_zero, List.set_cons_succ]
        refine wpAnyH_take (i := 13) (v := ?_) rfl (by kernel_rfl) (by kernel_rfl) (by kernel_rfl) (fun _ _ _ h => h) (Or.inl ⟨by rfl, ?_⟩) (by assumption) ?_
        rotate_left
        · (intro w hSw; (try dsimp only at hSw); go_simp; try with_reducible rfl)
        try simp only [List.getElem_toArray, List.getElem_cons_succ, List.getElem_cons_zero, Act.put, List.setIfInBounds_toArray, List.set_cons_zero, List.set_cons_succ]
        refine wpAnyH_ready (rs := [14]) (by kernel_rfl) (by simp) ?_
        refine AllReadyH.cons rfl (fun K hK => ?_) AllReadyH.nil
        clear hHeld
        rw [if_pos (by rfl)]
        simp only [List.getElem_toArray, List.getElem_cons_succ, List.getElem_cons_zero]
        go_simp
        refine hK.out _ _ HQ9.out.cellsF (fun hHeld => ?_)
        clear hK K
        try simp only [List.getElem_toArray, List.getElem_cons_succ, List.getElem_cons_zero, Act.put, List.setIfInBounds_toArray, List.set_cons_zero, List.set_cons_succ]
        clear hHeld
        refine wpAnyH_done (by kernel_rfl) ?_ _
        clear hcA l1 lz HS9 HST4
        go_wp2_with fail
        go_roundw
        case rel => exact ⟨k + 1, _, hlt, by go_num, HQ9.out.blk, by rw [HST.out]; exact HQ9.out.row, HQ9.out.below⟩
        case measure => simp [intOf]; omega
      · rw [if_pos (by rfl)]
        simp only [List.getElem_toArray, List.getElem_cons_succ, List.getElem_cons_zero]
        go_simp
        go_at_call 11
        refine (digest_any _ _ _ _ HVD.out).mono ?_
        rintro e w4 ⟨rfl, hb4⟩
        have HST4 := Lib.hid (HDD.out.call hb4)
        clear HDD HVD
        have j1 := HST4.out.cellP
        have hs4 := HST4.out.le
        clear hb4
        show K _ w4
        refine hK.out _ _ HST4.out.cellsF (fun hHeld => ?_)
        clear hK K
        try simp only [List.getElem_toArray, List.getElem_cons_succ, List.getElem_cons_zero, Act.put, List.setIfInBounds_toArray, List.set_cons_zero, List.set_cons_succ]
        refine wpAnyH_take (i := 10) (v := ?_) rfl (by kernel_rfl) (by kernel_rfl) (by kernel_rfl) (fun _ _ _ h => h) (Or.inl ⟨by rfl, ?_⟩) (by assumption) ?_
        rotate_left
        · (intro w hSw; (try dsimp only at hSw); go_simp; try with_reducible rfl)
        try simp only [List.getElem_toArray, List.getElem_cons_succ, List.getElem_cons_zero, Act.put, List.setIfInBounds_toArray, List.set_cons_zero, List.set_cons_succ]
        refine wpAnyH_ready (rs := [1, 11]) (by kernel_rfl) (by simp) ?_
        refine AllReadyH.cons rfl (fun K hK => ?_) (AllReadyH.cons rfl (fun K hK => ?_) AllReadyH.nil)
        · rw [if_pos (by rfl)]
          simp only [List.getElem_toArray, List.getElem_cons_succ, List.getElem_cons_zero]
          go_simp
          refine hK.out _ _ hHeld (fun hHeld => ?_)
          clear hK K
          try simp only [List.getElem_toArray, List.getElem_cons_succ, List.getElem_cons_zero, Act.put, List.setIfInBounds_toArray, List.set_cons_zero, List.set_cons_succ]
          refine wpAnyH_ready (rs := [11]) (by kernel_rfl) (by simp) ?_
          refine AllReadyH.cons rfl (fun K hK => ?_) AllReadyH.nil
          have hcA := HST4.out.cellP_alloc (.cells #[.string (bstr x.path), .int .i64 x.bytes.length, .string (bstr (hexL (fnv x.bytes) 16))] 66)
          rw [if_pos (by rfl)]
          simp only [List.getElem_toArray, List.getElem_cons_succ, List.getElem_cons_zero]
          go_simp
          refine hK.out _ _ (HST4.out.cellsF_alloc _) (fun hHeld => ?_)
          clear hK K
          try simp only [List.getElem_toArray, List.getElem_cons_succ, List.getElem_cons_zero, Act.put, List.setIfInBounds_toArray, List.set_cons_zero, List.set_cons_succ]
          refine wpAnyH_ready (rs := [12]) (by kernel_rfl) (by simp) ?_
          refine AllReadyH.cons rfl (fun K hK => ?_) AllReadyH.nil
          refine step_app_new (w := w4) (by rfl) (.tmp 29) (.tmp 39) 38 (by rfl) 66 _ 3 40 Tryz.underlying38 ent_info rfl (by decide) (entCells (listedOf x)) 0 rfl HST4.out.row HST4.out.le rfl rfl rfl (by decide) (by simp [entCells, Value.oneCell']) (by unfold maxLen; omega) (by omega) ?_
          intro g1 cc1 w9 HO9 HG9 HB9 HL9
          have HP9 := Lib.hid (HST4.out.push HO9.out HG9.out HB9.out)
          have HS9 := Lib.hid (HST4.out.cellsF_app HG9.out)
          have l1 := HP9.out.1
          have lz := HP9.out.2.1
          have HQ9 := Lib.hid HP9.out.2.2
          clear HP9 HO9 HG9 HB9 HL9
          refine hK.out _ _ HS9.out (fun hHeld => ?_)
          clear hK K
          try simp only [List.getElem_toArray, List.getElem_cons_succ, List.getElem_cons_zero, Act.put, List.setIfInBounds_toArray, List.set_cons_zero, List.set_cons_succ]
          refine wpAnyH_take (i := 13) (v := ?_) rfl (by kernel_rfl) (by kernel_rfl) (by kernel_rfl) (fun _ _ _ h => h) (Or.inl ⟨by rfl, ?_⟩) (by assumption) ?_
          rotate_left
          · (intro w hSw; (try dsimp only at hSw); go_simp; try with_reducible rfl)
          try simp only [List.getElem_toArray, List.getElem_cons_succ, List.getElem_cons_zero, Act.put, List.setIfInBounds_toArray, List.set_cons_zero, List.set_cons_succ]
          refine wpAnyH_ready (rs := [14]) (by kernel_rfl) (by simp) ?_
          refine AllReadyH.cons rfl (fun K hK => ?_) AllReadyH.nil
          clear hHeld
          rw [if_pos (by rfl)]
          simp only [List.getElem_toArray, List.getElem_cons_succ, List.getElem_cons_zero]
          go_simp
          refine hK.out _ _ HQ9.out.cellsF (fun hHeld => ?_)
          clear hK K
          try simp only [List.getElem_toArray, List.getElem_cons_succ, List.getElem_cons_zero, Act.put, List.setIfInBounds_toArray, List.set_cons_zero, List.set_cons_succ]
          clear hHeld
          refine wpAnyH_done (by kernel_rfl) ?_ _
          clear hcA l1 lz HS9 HST4
          go_wp2_with fail
          go_roundw
          case rel => exact ⟨k + 1, _, hlt, by go_num, HQ9.out.blk, by rw [HST.out]; exact HQ9.out.row, HQ9.out.below⟩
          case measure => simp [intOf]; omega
        · have hcA := HST4.out.cellP_alloc (.cells #[.string (bstr x.path), .int .i64 x.bytes.length, .string (bstr (hexL (fnv x.bytes) 16))] 66)
          rw [if_pos (by rfl)]
          simp only [List.getElem_toArray, List.getElem_cons_succ, List.getElem_cons_zero]
          go_simp
          refine hK.out _ _ (HST4.out.cellsF_alloc _) (fun hHeld => ?_)
          clear hK K
          try simp only [List.getElem_toArray, List.getElem_cons_succ, List.getElem_cons_zero, Act.put, List.setIfInBounds_toArray, List.set_cons_zero, List.set_cons_succ]
          refine wpAnyH_ready (rs := [1]) (by kernel_rfl) (by simp) ?_
          refine AllReadyH.cons rfl (fun K hK => ?_) AllReadyH.nil
          rw [if_pos (by rfl)]
          simp only [List.getElem_toArray, List.getElem_cons_succ, List.getElem_cons_zero]
          go_simp
          refine hK.out _ _ hHeld (fun hHeld => ?_)
          clear hK K
          try simp only [List.getElem_toArray, List.getElem_cons_succ, List.getElem_cons_zero, Act.put, List.setIfInBounds_toArray, List.set_cons_zero, List.set_cons_succ]
          refine wpAnyH_ready (rs := [12]) (by kernel_rfl) (by simp) ?_
          refine AllReadyH.cons rfl (fun K hK => ?_) AllReadyH.nil
          refine step_app_new (w := w4) (by rfl) (.tmp 29) (.tmp 39) 38 (by rfl) 66 _ 3 40 Tryz.underlying38 ent_info rfl (by decide) (entCells (listedOf x)) 0 rfl HST4.out.row HST4.out.le rfl rfl rfl (by decide) (by simp [entCells, Value.oneCell']) (by unfold maxLen; omega) (by omega) ?_
          intro g1 cc1 w9 HO9 HG9 HB9 HL9
          have HP9 := Lib.hid (HST4.out.push HO9.out HG9.out HB9.out)
          have HS9 := Lib.hid (HST4.out.cellsF_app HG9.out)
          have l1 := HP9.out.1
          have lz := HP9.out.2.1
          have HQ9 := Lib.hid HP9.out.2.2
          clear HP9 HO9 HG9 HB9 HL9
          refine hK.out _ _ HS9.out (fun hHeld => ?_)
          clear hK K
          try simp only [List.getElem_toArray, List.getElem_cons_succ, List.getElem_cons_zero, Act.put, List.setIfInBounds_toArray, List.set_cons_zero, List.set_cons_succ]
          refine wpAnyH_take (i := 13) (v := ?_) rfl (by kernel_rfl) (by kernel_rfl) (by kernel_rfl) (fun _ _ _ h => h) (Or.inl ⟨by rfl, ?_⟩) (by assumption) ?_
          rotate_left
          · (intro w hSw; (try dsimp only at hSw); go_simp; try with_reducible rfl)
          try simp only [List.getElem_toArray, List.getElem_cons_succ, List.getElem_cons_zero, Act.put, List.setIfInBounds_toArray, List.set_cons_zero, List.set_cons_succ]
          refine wpAnyH_ready (rs := [14]) (by kernel_rfl) (by simp) ?_
          refine AllReadyH.cons rfl (fun K hK => ?_) AllReadyH.nil
          clear hHeld
          rw [if_pos (by rfl)]
          simp only [List.getElem_toArray, List.getElem_cons_succ, List.getElem_cons_zero]
          go_simp
          refine hK.out _ _ HQ9.out.cellsF (fun hHeld => ?_)
          clear hK K
          try simp only [List.getElem_toArray, List.getElem_cons_succ, List.getElem_cons_zero, Act.put, List.setIfInBounds_toArray, List.set_cons_zero, List.set_cons_succ]
          clear hHeld
          refine wpAnyH_done (by kernel_rfl) ?_ _
          clear hcA l1 lz HS9 HST4
          go_wp2_with fail
          go_roundw
          case rel => exact ⟨k + 1, _, hlt, by go_num, HQ9.out.blk, by rw [HST.out]; exact HQ9.out.row, HQ9.out.below⟩
          case measure => simp [intOf]; omega
    · -- the end
      obtain rfl : k = l.length := by omega
      rw [List.take_length] at HO
      have hkp := HK.out
      have p0 : wr.cell? ⟨w2.heap.size, 0, none⟩ = some (.string (bstr n)) := hkp.cell 0
      have p1 : wr.cell? ⟨w2.heap.size, 1, none⟩ = some (.slice AE l.length cE) := hkp.cell 1
      have hkr := HK2.out.same (same_below HB.out) hlw2
      have r0 : wr.cell? ⟨w.heap.size, 0, none⟩ = some (.string ⟨#[]⟩) := hkr.cell 0
      have r1 : wr.cell? ⟨w.heap.size, 1, none⟩ = some (.slice none 0 0) := hkr.cell 1
      have q0 : wr.frozen? ⟨w.heap.size, 0, none⟩ = false := hkr.frozen 0
      have q1 : wr.frozen? ⟨w.heap.size, 1, none⟩ = false := hkr.frozen 1
      have hbk := (hkr.set_ 0 (.string (bstr n))).set_ 1 (.slice AE l.length cE)
      have HBK := Lib.hid hbk
      have HPP := Lib.hid (PkgPost.good hlw2 HB2.out HPF.out HF.out HOK.out HB.out HO.out (v := .slice AE l.length cE) (n := n))
      clear hbk hkp hkr HK HO HB HB2 HOK HPF HK2 HF H2
      go_wp2_with fail
      refine bodyPost_ret (results_row2 rfl _ _ w.heap.size 40 [.string (bstr n), .slice AE l.length cE] _ rfl HBK.out Tryz.underlying40 rfl pack_info) rfl ?_
      exact HPP.out
end Go.Proofs.YtnkdcmibafjplaaGreatDoor
