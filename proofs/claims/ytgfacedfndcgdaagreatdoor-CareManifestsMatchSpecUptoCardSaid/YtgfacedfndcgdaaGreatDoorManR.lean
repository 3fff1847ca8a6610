/-
  ReadManifest of package care.
-/
import Derived.Test.YtgfacedfndcgdaaGreatDoorManC
namespace Go.Proofs.YtgfacedfndcgdaaGreatDoor
open Go.RowKit
set_option linter.unusedVariables false
set_option linter.unusedSimpArgs false

theorem Blk.alloc_o {w : World} {g : Nat} {t : TypeId} {cs : List Value} (h : Blk w g t cs) (o : Obj) : Blk (w.alloc o) g t cs := (Below.heap_alloc w o g h.lt).trans h
theorem Blk.set_o {w : World} {g g' i : Nat} {t : TypeId} {cs : List Value} (h : Blk w g t cs) (hne : g ≠ g') (v : Value) : Blk (w.setCell ⟨g', i, none⟩ v) g t cs := (Below.heap_setCell _ _ _ g hne).trans h
def preB (s : List UInt8) : Bool := Lib.hasPrefix s (kPack ++ [32])
def selB (s : List UInt8) : Bool := Lib.hasPrefix s (kSeal ++ [32])
def nameV (s : List UInt8) : List UInt8 := if preB s = true then s.drop 8 else s
def lastV (s : List UInt8) : List UInt8 := if selB s = true then s.drop 5 else s
theorem nameV_yes {s : List UInt8} (h : preB s = true) : nameV s = s.drop 8 := if_pos h
theorem lastV_yes {s : List UInt8} (h : selB s = true) : lastV s = s.drop 5 := if_pos h
theorem pkP_any (s : List UInt8) (w : World) : Calls Tryz.prog 19 #[.string (bstr s), .string ⟨#[112, 97, 99, 107, 97, 103, 101, 32]⟩] w fun e w' => e = .returned (.tuple #[.string (bstr (nameV s)), .bool (preB s)]) ∧ w' = w :=
  cutPrefix_any s (kPack ++ [32]) w
theorem pkS_any (s : List UInt8) (w : World) : Calls Tryz.prog 19 #[.string (bstr s), .string ⟨#[115, 101, 97, 108, 32]⟩] w fun e w' => e = .returned (.tuple #[.string (bstr (lastV s)), .bool (selB s)]) ∧ w' = w :=
  cutPrefix_any s (kSeal ++ [32]) w
theorem rm_large {text : List UInt8} (h : 400000 < text.length) : rmOut text = ⟨[], [], 0, 2⟩ := if_pos h
theorem rm_syn {text : List UInt8} {i : Nat} (h : ¬ 400000 < text.length) (hr : rdAll text = (i, none)) : rmOut text = ⟨[], [], i, 10⟩ := by rw [rmOut, if_neg h, hr]
theorem rm_open {text : List UInt8} {i : Nat} {st : RS} (h : ¬ 400000 < text.length) (hr : rdAll text = (i, some st)) (hs : st.sl = []) : rmOut text = ⟨[], [], i, 10⟩ := by rw [rmOut, if_neg h, hr]; exact if_pos hs
theorem rm_dam {text : List UInt8} {i : Nat} {st : RS} (h : ¬ 400000 < text.length) (hr : rdAll text = (i, some st)) (hs : st.sl ≠ []) (hd : digL st.pre ≠ st.sl) : rmOut text = ⟨[], [], 0, 15⟩ := by
  rw [rmOut, if_neg h, hr]; dsimp only; rw [if_neg hs, if_pos hd]
theorem rm_pk {text : List UInt8} {i : Nat} {st : RS} (h : ¬ 400000 < text.length) (hr : rdAll text = (i, some st)) (hs : st.sl ≠ []) (hd : digL st.pre = st.sl) (hp : packFault st.nm st.ents ≠ 0) : rmOut text = ⟨[], [], 0, packFault st.nm st.ents⟩ := by
  rw [rmOut, if_neg h, hr]; dsimp only; rw [if_neg hs, if_neg (fun e => e hd), if_pos hp]
theorem rm_ok {text : List UInt8} {i : Nat} {st : RS} (h : ¬ 400000 < text.length) (hr : rdAll text = (i, some st)) (hs : st.sl ≠ []) (hd : digL st.pre = st.sl) (hp : packFault st.nm st.ents = 0) : rmOut text = ⟨st.nm, st.ents, 0, 0⟩ := by
  rw [rmOut, if_neg h, hr]; dsimp only; rw [if_neg hs, if_neg (fun e => e hd), if_neg (fun e => e hp)]
theorem RmPost.none_ {text : List UInt8} {w w' : World} {i : Nat} {f : Int} (h : rmOut text = ⟨[], [], i, f⟩) (hb : Below w.heap.size w w') : RmPost text w (.returned (.tuple #[.agg #[.string ⟨#[]⟩, .slice none 0 0], .int .i64 (i : Int), .int .i64 f])) w' :=
  ⟨.slice none 0 0, by rw [h]; rfl, by rw [h]; exact Rp.sl_nil _ _ _, hb⟩
def ESz (x : Ent) : Prop := x.path.length ≤ maxLen ∧ x.digest.length ≤ maxLen ∧ (Lit.int .i64 x.size).wf = true
theorem RmPost.some_ {text : List UInt8} {w w' : World} {B n : Nat} {nm : List UInt8} {es : List Ent} {v : Value} (h : rmOut text = ⟨nm, es, 0, 0⟩) (hO : w'.ownsRow B 36 3 v n (es.flatMap entCells)) (hz : ∀ x ∈ es, ESz x) (hb : Below w.heap.size w w') : RmPost text w (.returned (.tuple #[.agg #[.string (bstr nm), v], .int .i64 0, .int .i64 0])) w' :=
  ⟨v, by rw [h]; rfl, by rw [h]; exact ents_read hO hz, hb⟩
theorem entX_sz {s : List UInt8} {x : Ent} (h : entX s = some x) (hs : s.length ≤ 1000000) : ESz x := by
  unfold entX at h
  split at h
  · rename_i a b c e
    split at h
    · rename_i hc
      injection h with h
      subst h
      have hle := sg_len_le _ s (Nat.le_refl _)
      rw [e] at hle
      have ha := hle a (by simp)
      have hcc := hle c (by simp)
      rw [Bool.and_eq_true, Bool.and_eq_true] at hc
      have hv := num_val hc.2.1
      unfold ESz maxLen
      exact ⟨by show c.length ≤ _; omega, by show a.length ≤ _; omega, WalkArith.wf_i64 (by show (-9223372036854775808 : Int) ≤ numV b ∧ numV b ≤ 9223372036854775807; omega)⟩
    · cases h
  · cases h
theorem own_blw3 {w w' : World} {B : Nat} {e : TypeId} {size n : Nat} {v : Value} {xs : List Value} (h : w.ownsRow B e size v n xs) (hb : Below w.heap.size w w') : w'.ownsRow B e size v n xs :=
  h.kept (row := none) ⟨hb.os, hb.tape, hb.output, hb.size, fun k hk _ => hb.block k hk⟩ (by cases hg : v.ownBlock <;> simp)
theorem set_grown3 (w : World) (mb i : Nat) (v : Value) : w.grownBy (w.setCell ⟨mb, i, none⟩ v) (some mb) :=
  ⟨rfl, rfl, rfl, by simp [World.setCell], fun k hk hne => heap_setCell_other _ _ _ _ (fun e => hne (by rw [e]))⟩
/-- The seal that care keeps: none if it fits. -/
def sealV (st : RS) : List UInt8 := if digL st.pre = st.sl then [] else st.sl
theorem sealV_nil {st : RS} (h : st.sl = []) : sealV st = [] := by
  unfold sealV
  split
  · rfl
  · exact h
/-- What the loop keeps in memory: the result's cells, 'none', the package; its entries. -/
structure RmSt (w : World) (st : RS) (vE : Value) (wr : World) : Prop where
  res : Blk wr w.heap.size 24 [.string ⟨#[]⟩, .slice none 0 0]
  non : Blk wr (w.heap.size + 1) 24 [.string ⟨#[]⟩, .slice none 0 0]
  pk : Blk wr (w.heap.size + 2) 24 [.string (bstr st.nm), vE]
  row : wr.ownsRow (w.heap.size + 3) 36 3 vE st.ents.length (st.ents.flatMap entCells)
  below : Below w.heap.size w wr
  le : w.heap.size + 3 ≤ wr.heap.size
  sz : ∀ x ∈ st.ents, ESz x
theorem RmSt.call {w wr w' : World} {st : RS} {vE : Value} (h : RmSt w st vE wr) (hb : Below wr.heap.size wr w') : RmSt w st vE w' where
  res := h.res.same (same_below hb) h.res.lt
  non := h.non.same (same_below hb) h.non.lt
  pk := h.pk.same (same_below hb) h.pk.lt
  row := own_blw3 h.row hb
  below := below_tr3 h.below hb h.below.size
  le := Nat.le_trans h.le hb.size
  sz := h.sz
theorem RmSt.seald {w wr : World} {st : RS} {vE : Value} (h : RmSt w st vE wr) (x pre : List UInt8) : RmSt w { st with sl := x, pre := pre } vE wr := ⟨h.res, h.non, h.pk, h.row, h.below, h.le, h.sz⟩
theorem RmSt.name_ {w wr : World} {st : RS} {vE : Value} (h : RmSt w st vE wr) (x : List UInt8) : RmSt w { st with nm := x } vE (wr.setCell ⟨w.heap.size + 2, 0, none⟩ (.string (bstr x))) where
  res := h.res.set_o (by omega) _
  non := h.non.set_o (by omega) _
  pk := h.pk.set_ 0 (.string (bstr x))
  row := h.row.kept (set_grown3 wr (w.heap.size + 2) 0 _) (by
    cases hv : vE.ownBlock with
    | none => exact .inl rfl
    | some g => exact .inr (fun e => by injection e with e; have := (h.row.lt g hv).1; omega))
  below := h.below.setCell (p := ⟨w.heap.size + 2, 0, none⟩) (by show w.heap.size ≤ w.heap.size + 2; omega) _
  le := by have := h.le; simpa using this
  sz := h.sz
theorem RmSt.push {w wr w4 : World} {st : RS} {vE v' : Value} (h : RmSt w st vE wr) (x : Ent) (hx : ESz x) (hO : w4.ownsRow (w.heap.size + 3) 36 3 v' (st.ents.length + 1) (st.ents.flatMap entCells ++ entCells x)) (hb : Below (w.heap.size + 3) wr w4) : RmSt w { st with ents := st.ents ++ [x] } v' (w4.setCell ⟨w.heap.size + 2, 1, none⟩ v') where
  res := (h.res.same (same_below hb) (by omega)).set_o (by omega) _
  non := (h.non.same (same_below hb) (by omega)).set_o (by omega) _
  pk := (h.pk.same (same_below hb) (by omega)).set_ 1 v'
  row := by
    show World.ownsRow _ _ _ _ _ (st.ents ++ [x]).length ((st.ents ++ [x]).flatMap entCells)
    rw [List.length_append, List.flatMap_append, List.flatMap_singleton]
    exact hO.kept (set_grown3 w4 (w.heap.size + 2) 1 _) (by
      cases hv : v'.ownBlock with
      | none => exact .inl rfl
      | some g => exact .inr (fun e => by injection e with e; have := (hO.lt g hv).1; omega))
  below := (h.below.trans (hb.mono (by omega))).setCell (p := ⟨w.heap.size + 2, 1, none⟩) (by show w.heap.size ≤ w.heap.size + 2; omega) _
  le := by have h1 := h.le; have h2 := hb.size; simp; omega
  sz := fun y hy => by
    rcases List.mem_append.1 hy with e | e
    · exact h.sz y e
    · rw [List.mem_singleton.1 e]; exact hx
set_option maxRecDepth 100000 in
set_option maxHeartbeats 16000000 in
theorem readManifest_any (text : List UInt8) (w : World) (hG : GInt w) : Calls Tryz.prog 8 #[.string (bstr text)] w (RmPost text w) := by
  have HG := Lib.hid hG
  have hsz : (bstr text).size = text.length := rfl
  have hr0 := (Blk.new w 24 [.string ⟨#[]⟩, .slice none 0 0]).alloc_o (.cells #[.string ⟨#[]⟩, .slice none 0 0] 24)
  have hn0 := Blk.new (w.alloc (.cells #[.string ⟨#[]⟩, .slice none 0 0] 24)) 24 [.string ⟨#[]⟩, .slice none 0 0]
  rw [World.size_alloc] at hn0
  have hb0 : Below w.heap.size w ((w.alloc (.cells #[.string ⟨#[]⟩, .slice none 0 0] 24)).alloc (.cells #[.string ⟨#[]⟩, .slice none 0 0] 24)) := ((Below.refl _ w).alloc (Nat.le_refl _) _).alloc (by simp) _
  have HR0 := Lib.hid hr0
  have HN0 := Lib.hid hn0
  have HB0 := Lib.hid hb0
  have hs2 : ((w.alloc (.cells #[.string ⟨#[]⟩, .slice none 0 0] 24)).alloc (.cells #[.string ⟨#[]⟩, .slice none 0 0] 24)).heap.size = w.heap.size + 2 := by simp
  clear hG hr0 hn0 hb0
  by_cases hl : 400000 < text.length
  · have hl' : (400000 : Int) < (text.length : Int) := by omega
    have HRM := Lib.hid (rm_large hl)
    have k0 := HR0.out.cell 0
    have k1 := HR0.out.cell 1
    have z0 := HR0.out.frozen 0
    have z1 := HR0.out.frozen 1
    have n0 := HN0.out.cell 0
    have n1 := HN0.out.cell 1
    simp only [List.getElem?_cons_zero, List.getElem?_cons_succ] at k0 k1 n0 n1
    go_enter Tryz.func8, Tryz.ntmps8
    go_wp2_with fail
    refine bodyPost_ret (results_row3 rfl _ _ w.heap.size 24 [.string ⟨#[]⟩, .slice none 0 0] _ rfl HR0.out Tryz.underlying24 rfl pack_info) rfl ?_
    exact RmPost.none_ HRM.out HB0.out
  have hl' : ¬ (400000 : Int) < (text.length : Int) := by omega
  have HL := Lib.hid hl
  have hlt : text.length ≤ 400000 := by omega
  have HS0 : Hid (RmSt w st0 (.slice none 0 0) (((w.alloc (.cells #[.string ⟨#[]⟩, .slice none 0 0] 24)).alloc (.cells #[.string ⟨#[]⟩, .slice none 0 0] 24)).alloc (.cells #[.string ⟨#[]⟩, .slice none 0 0] 24))) := Lib.hid {
    res := HR0.out.alloc_o _
    non := HN0.out.alloc_o _
    pk := by
      have := Blk.new ((w.alloc (.cells #[.string ⟨#[]⟩, .slice none 0 0] 24)).alloc (.cells #[.string ⟨#[]⟩, .slice none 0 0] 24)) 24 [.string ⟨#[]⟩, .slice none 0 0]
      rw [hs2] at this
      exact this
    row := World.ownsRow_nil _ _ _ _
    below := HB0.out.alloc (by rw [hs2]; omega) _
    le := by simp
    sz := fun x hx => absurd hx (by simp [st0]) }
  clear hl HR0 HN0 HB0
  go_enter Tryz.func8, Tryz.ntmps8
  go_wp2_with fail
  generalize ((w.alloc (.cells #[.string ⟨#[]⟩, .slice none 0 0] 24)).alloc (.cells #[.string ⟨#[]⟩, .slice none 0 0] 24)).alloc (.cells #[.string ⟨#[]⟩, .slice none 0 0] 24) = w0 at *
  go_loopw [7, 8, 9, 10] (fun vs vd va vi wr => ∃ (pre : List UInt8) (st : RS) (rest : List UInt8) (i : Nat) (vE : Value), vs = .string (bstr (sealV st)) ∧ vd = .bool (!decide (st.sl = [])) ∧ va = .int .i64 pre.length ∧ vi = .int .i64 i ∧ Hid (At text i pre st rest) ∧ Hid (RmSt w st vE wr) ∧ st.nm.length ≤ text.length ∧ st.ents.length ≤ pre.length) (fun _ _ va _ _ => text.length - (intOf va).toNat)
  case atStart => exact ⟨[], st0, text, 1, .slice none 0 0, rfl, rfl, rfl, rfl, Lib.hid (At.start text), HS0, Nat.zero_le _, Nat.zero_le _⟩
  case round =>
    clear HS0
    obtain ⟨pre, st, rest, i, vE, rfl, rfl, rfl, rfl, HAT, HST, hnl, hel⟩ := hrel
    have hlen : text.length = pre.length + rest.length := by rw [HAT.out.1, List.length_append]
    have hil : i ≤ pre.length + 1 := HAT.out.2.2.2.1
    have hi1 : 1 ≤ i := HAT.out.2.2.2.2
    by_cases hr : rest = []
    · subst hr
      have HRD := Lib.hid HAT.out.done
      have hnlt : ¬ (pre.length : Int) < (text.length : Int) := by rw [hlen]; simp
      have hnl2 : st.nm.length ≤ 400000 := by omega
      clear hlen hil hi1 hel
      by_cases hs : st.sl = []
      · have hd : decide (st.sl = []) = true := decide_eq_true hs
        have HS := Lib.hid hs
        rw [hd]
        clear hs hd
        have HBK := Lib.hid ((HST.out.res.set_ 0 (.string ⟨#[]⟩)).set_ 1 (.slice none 0 0))
        have HPP : Hid (RmPost text w (.returned (.tuple #[.agg #[.string ⟨#[]⟩, .slice none 0 0], .int .i64 ((i : Int)), .int .i64 (10)])) ((wr.setCell ⟨w.heap.size, 0, none⟩ (.string ⟨#[]⟩)).setCell ⟨w.heap.size, 1, none⟩ (.slice none 0 0))) := Lib.hid (RmPost.none_ (rm_open HL.out HRD.out HS.out) ((HST.out.below.setCell (p := ⟨w.heap.size, 0, none⟩) (Nat.le_refl _) (.string ⟨#[]⟩)).setCell (p := ⟨w.heap.size, 1, none⟩) (Nat.le_refl _) (.slice none 0 0)))
        have k0 := HST.out.res.cell 0
        have k1 := HST.out.res.cell 1
        have z0 := HST.out.res.frozen 0
        have z1 := HST.out.res.frozen 1
        have n0 := HST.out.non.cell 0
        have n1 := HST.out.non.cell 1
        simp only [List.getElem?_cons_zero, List.getElem?_cons_succ] at k0 k1 n0 n1
        go_wp2_with fail
        refine bodyPost_ret (results_row3 rfl _ _ w.heap.size 24 [.string ⟨#[]⟩, .slice none 0 0] _ rfl HBK.out Tryz.underlying24 rfl pack_info) rfl ?_
        exact HPP.out
      have hd : decide (st.sl = []) = false := decide_eq_false hs
      have HS := Lib.hid hs
      rw [hd]
      clear hd
      by_cases hg : digL st.pre = st.sl
      case neg =>
        have HD := Lib.hid hg
        have hsv : sealV st = st.sl := if_neg hg
        have hem : (bstr st.sl).toList.isEmpty = false := by
          rw [bstr_toList]
          cases h : st.sl with
          | nil => exact absurd h hs
          | cons _ _ => rfl
        rw [hsv]
        clear hg hs hsv
        have HBK := Lib.hid ((HST.out.res.set_ 0 (.string ⟨#[]⟩)).set_ 1 (.slice none 0 0))
        have HPP : Hid (RmPost text w (.returned (.tuple #[.agg #[.string ⟨#[]⟩, .slice none 0 0], .int .i64 (((0 : Nat) : Int)), .int .i64 (15)])) ((wr.setCell ⟨w.heap.size, 0, none⟩ (.string ⟨#[]⟩)).setCell ⟨w.heap.size, 1, none⟩ (.slice none 0 0))) := Lib.hid (RmPost.none_ (rm_dam HL.out HRD.out HS.out HD.out) ((HST.out.below.setCell (p := ⟨w.heap.size, 0, none⟩) (Nat.le_refl _) (.string ⟨#[]⟩)).setCell (p := ⟨w.heap.size, 1, none⟩) (Nat.le_refl _) (.slice none 0 0)))
        have k0 := HST.out.res.cell 0
        have k1 := HST.out.res.cell 1
        have z0 := HST.out.res.frozen 0
        have z1 := HST.out.res.frozen 1
        have n0 := HST.out.non.cell 0
        have n1 := HST.out.non.cell 1
        simp only [List.getElem?_cons_zero, List.getElem?_cons_succ] at k0 k1 n0 n1
        go_wp2_with fail
        refine bodyPost_ret (results_row3 rfl _ _ w.heap.size 24 [.string ⟨#[]⟩, .slice none 0 0] _ rfl HBK.out Tryz.underlying24 rfl pack_info) rfl ?_
        exact HPP.out
      have HD := Lib.hid hg
      have hsv : sealV st = [] := if_pos hg
      have hem : (bstr ([] : List UInt8)).toList.isEmpty = true := by rw [bstr_toList]; rfl
      rw [hsv]
      have HCP := Lib.hid (checkPackage_any st.nm vE st.ents wr (ents_read HST.out.row HST.out.sz) (HG.out.ext HST.out.below) (by omega))
      have p0 := HST.out.pk.cell 0
      have p1 := HST.out.pk.cell 1
      simp only [List.getElem?_cons_zero, List.getElem?_cons_succ] at p0 p1
      clear hg hs hsv
      go_wp2_with fail
      refine HCP.out.mono ?_
      rintro e w7 ⟨rfl, hb7⟩
      have HST7 := Lib.hid (HST.out.call hb7)
      clear HCP hb7 p0 p1 HST
      by_cases hp : packFault st.nm st.ents = 0
      case neg =>
        have HPK := Lib.hid hp
        have hn : (packFault st.nm st.ents != 0) = true := by simpa using hp
        clear hp
        have HRP := Lib.hid (rm_pk HL.out HRD.out HS.out HD.out HPK.out)
        generalize packFault st.nm st.ents = pf at *
        have HBK := Lib.hid ((HST7.out.res.set_ 0 (.string ⟨#[]⟩)).set_ 1 (.slice none 0 0))
        have HPP : Hid (RmPost text w (.returned (.tuple #[.agg #[.string ⟨#[]⟩, .slice none 0 0], .int .i64 (((0 : Nat) : Int)), .int .i64 (pf)])) ((w7.setCell ⟨w.heap.size, 0, none⟩ (.string ⟨#[]⟩)).setCell ⟨w.heap.size, 1, none⟩ (.slice none 0 0))) := Lib.hid (RmPost.none_ (HRP.out) ((HST7.out.below.setCell (p := ⟨w.heap.size, 0, none⟩) (Nat.le_refl _) (.string ⟨#[]⟩)).setCell (p := ⟨w.heap.size, 1, none⟩) (Nat.le_refl _) (.slice none 0 0)))
        have k0 := HST7.out.res.cell 0
        have k1 := HST7.out.res.cell 1
        have z0 := HST7.out.res.frozen 0
        have z1 := HST7.out.res.frozen 1
        have n0 := HST7.out.non.cell 0
        have n1 := HST7.out.non.cell 1
        simp only [List.getElem?_cons_zero, List.getElem?_cons_succ] at k0 k1 n0 n1
        go_wp2_with fail
        refine bodyPost_ret (results_row3 rfl _ _ w.heap.size 24 [.string ⟨#[]⟩, .slice none 0 0] _ rfl HBK.out Tryz.underlying24 rfl pack_info) rfl ?_
        exact HPP.out
      have HRP := Lib.hid (rm_ok HL.out HRD.out HS.out HD.out hp)
      rw [hp]
      clear hp
      have HBK := Lib.hid ((HST7.out.res.set_ 0 (.string (bstr st.nm))).set_ 1 vE)
      have HPP : Hid (RmPost text w (.returned (.tuple #[.agg #[.string (bstr st.nm), vE], .int .i64 0, .int .i64 0])) ((w7.setCell ⟨w.heap.size, 0, none⟩ (.string (bstr st.nm))).setCell ⟨w.heap.size, 1, none⟩ vE)) := Lib.hid (by
        have hO := (HST7.out.row.kept (set_grown3 w7 w.heap.size 0 (.string (bstr st.nm))) (by
          cases hv : vE.ownBlock with
          | none => exact .inl rfl
          | some g => exact .inr (fun e => by injection e with e; have := (HST7.out.row.lt g hv).1; omega)))
        have hO2 := (hO.kept (set_grown3 _ w.heap.size 1 vE) (by
          cases hv : vE.ownBlock with
          | none => exact .inl rfl
          | some g => exact .inr (fun e => by injection e with e; have := (HST7.out.row.lt g hv).1; omega)))
        exact RmPost.some_ HRP.out hO2 HST7.out.sz ((HST7.out.below.setCell (p := ⟨w.heap.size, 0, none⟩) (Nat.le_refl _) _).setCell (p := ⟨w.heap.size, 1, none⟩) (Nat.le_refl _) _))
      have k0 := HST7.out.res.cell 0
      have k1 := HST7.out.res.cell 1
      have z0 := HST7.out.res.frozen 0
      have z1 := HST7.out.res.frozen 1
      have p0 := HST7.out.pk.cell 0
      have p1 := HST7.out.pk.cell 1
      simp only [List.getElem?_cons_zero, List.getElem?_cons_succ] at k0 k1 p0 p1
      have hvf := own_form HST7.out.row
      obtain ⟨AE, cE, hvE, _⟩ := hvf
      subst hvE
      go_wp2_with fail
      refine bodyPost_ret (results_row3 rfl _ _ w.heap.size 24 [.string (bstr st.nm), .slice AE st.ents.length cE] _ rfl HBK.out Tryz.underlying24 rfl pack_info) rfl ?_
      exact HPP.out
    have hrl : 0 < rest.length := List.length_pos_iff.2 hr
    have hplt : (pre.length : Int) < (text.length : Int) := by omega
    have hp0 : (0 : Int) ≤ (pre.length : Int) := by omega
    have hrs : rest.length ≤ 400000 := by omega
    have HLN := Lib.hid hlen
    clear hlen
    have HE : Hid ((bstr text).extract pre.length text.length = bstr rest) := Lib.hid (by rw [extract_tail, HAT.out.1]; congr 1; exact List.drop_left' rfl)
    have HGR := Lib.hid (HG.out.ext HST.out.below)
    rcases sp_cases 10 rest with hc | ⟨s, r, rfl, hc⟩
    · have HRD := Lib.hid (HAT.out.cut hr hc)
      have hcut := cut_any rest wr HGR.out (by omega)
      rw [cut_none hc] at hcut
      have HCU := Lib.hid hcut
      clear hcut hc hr
      go_wp2_with fail
      rw [HE.out]
      refine HCU.out.mono ?_
      rintro e w1 ⟨rfl, n, hw1⟩
      have HST1 := Lib.hid (HST.out.call (w' := w1) (by rw [hw1]; exact below_drewN (Below.refl _ _) n))
      clear hw1 HCU HST
      have HBK := Lib.hid ((HST1.out.res.set_ 0 (.string ⟨#[]⟩)).set_ 1 (.slice none 0 0))
      have HPP : Hid (RmPost text w (.returned (.tuple #[.agg #[.string ⟨#[]⟩, .slice none 0 0], .int .i64 ((i : Int)), .int .i64 (10)])) ((w1.setCell ⟨w.heap.size, 0, none⟩ (.string ⟨#[]⟩)).setCell ⟨w.heap.size, 1, none⟩ (.slice none 0 0))) := Lib.hid (RmPost.none_ (rm_syn HL.out HRD.out) ((HST1.out.below.setCell (p := ⟨w.heap.size, 0, none⟩) (Nat.le_refl _) (.string ⟨#[]⟩)).setCell (p := ⟨w.heap.size, 1, none⟩) (Nat.le_refl _) (.slice none 0 0)))
      have k0 := HST1.out.res.cell 0
      have k1 := HST1.out.res.cell 1
      have z0 := HST1.out.res.frozen 0
      have z1 := HST1.out.res.frozen 1
      have n0 := HST1.out.non.cell 0
      have n1 := HST1.out.non.cell 1
      simp only [List.getElem?_cons_zero, List.getElem?_cons_succ] at k0 k1 n0 n1
      go_wp2_with fail
      refine bodyPost_ret (results_row3 rfl _ _ w.heap.size 24 [.string ⟨#[]⟩, .slice none 0 0] _ rfl HBK.out Tryz.underlying24 rfl pack_info) rfl ?_
      exact HPP.out
    have hsl : s.length ≤ 400000 := by simp at hrs; omega
    have hcut := cut_any (s ++ 10 :: r) wr HGR.out (by omega)
    rw [cut_at hc] at hcut
    have HCU := Lib.hid hcut
    have HC := Lib.hid hc
    clear hcut hc hr
    go_wp2_with fail
    rw [HE.out]
    refine HCU.out.mono ?_
    rintro e w1 ⟨rfl, n, hw1⟩
    have HST1 := Lib.hid (HST.out.call (w' := w1) (by rw [hw1]; exact below_drewN (Below.refl _ _) n))
    clear hw1 HCU HST HE HGR
    by_cases hs : st.sl = []
    case neg =>
      have hd : decide (st.sl = []) = false := decide_eq_false hs
      have HRD := Lib.hid (HAT.out.bad HC.out (line_sealed hs))
      rw [hd]
      clear hd hs
      have HBK := Lib.hid ((HST1.out.res.set_ 0 (.string ⟨#[]⟩)).set_ 1 (.slice none 0 0))
      have HPP : Hid (RmPost text w (.returned (.tuple #[.agg #[.string ⟨#[]⟩, .slice none 0 0], .int .i64 ((i : Int)), .int .i64 (10)])) ((w1.setCell ⟨w.heap.size, 0, none⟩ (.string ⟨#[]⟩)).setCell ⟨w.heap.size, 1, none⟩ (.slice none 0 0))) := Lib.hid (RmPost.none_ (rm_syn HL.out HRD.out) ((HST1.out.below.setCell (p := ⟨w.heap.size, 0, none⟩) (Nat.le_refl _) (.string ⟨#[]⟩)).setCell (p := ⟨w.heap.size, 1, none⟩) (Nat.le_refl _) (.slice none 0 0)))
      have k0 := HST1.out.res.cell 0
      have k1 := HST1.out.res.cell 1
      have z0 := HST1.out.res.frozen 0
      have z1 := HST1.out.res.frozen 1
      have n0 := HST1.out.non.cell 0
      have n1 := HST1.out.non.cell 1
      simp only [List.getElem?_cons_zero, List.getElem?_cons_succ] at k0 k1 n0 n1
      go_wp2_with fail
      refine bodyPost_ret (results_row3 rfl _ _ w.heap.size 24 [.string ⟨#[]⟩, .slice none 0 0] _ rfl HBK.out Tryz.underlying24 rfl pack_info) rfl ?_
      exact HPP.out
    have hd : decide (st.sl = []) = true := decide_eq_true hs
    have HS := Lib.hid hs
    have hsv := sealV_nil hs
    rw [hd, hsv]
    clear hd hs hsv
    have hss : (bstr s).size = s.length := rfl
    have hst : s.length ≤ text.length := by have := HLN.out; simp at this; omega
    have hpt : pre.length + s.length + 1 ≤ 400000 := by have := HLN.out; simp at this; omega
    have hw1 : IntKind.i64.wrap ((s.length : Int) + 1) = (s.length : Int) + 1 := IntWalk.i64_in _ (by omega)
    have hw2 : IntKind.i64.wrap ((pre.length : Int) + ((s.length : Int) + 1)) = ((pre.length + s.length + 1 : Nat) : Int) := by rw [IntWalk.i64_in _ (by omega)]; omega
    have hw3 : IntKind.i64.wrap ((i : Int) + 1) = ((i + 1 : Nat) : Int) := by rw [IntWalk.i64_in _ (by omega)]; omega
    have hpl2 : (pre ++ s ++ [10]).length = pre.length + s.length + 1 := by simp; omega
    have HPL2 := Lib.hid hpl2
    clear hpl2
    go_wp2_with fail
    refine (pkP_any s _).mono ?_
    rintro e w2 ⟨rfl, hw⟩
    subst hw
    go_wp2_with fail
    refine (pkS_any s _).mono ?_
    rintro e w3 ⟨rfl, hw⟩
    subst hw
    by_cases hi : i = 1
    · subst hi
      have hi1 : ((((1 : Nat) : Int)) == 1) = true := rfl
      cases hpB : preB s with
      | false =>
        have HRD := Lib.hid (HAT.out.bad HC.out (line_pack_no (fun h => by unfold preB at hpB; rw [h.1] at hpB; cases hpB)))
        clear hpB
        have HBK := Lib.hid ((HST1.out.res.set_ 0 (.string ⟨#[]⟩)).set_ 1 (.slice none 0 0))
        have HPP : Hid (RmPost text w (.returned (.tuple #[.agg #[.string ⟨#[]⟩, .slice none 0 0], .int .i64 (((1 : Nat) : Int)), .int .i64 (10)])) ((w3.setCell ⟨w.heap.size, 0, none⟩ (.string ⟨#[]⟩)).setCell ⟨w.heap.size, 1, none⟩ (.slice none 0 0))) := Lib.hid (RmPost.none_ (rm_syn HL.out HRD.out) ((HST1.out.below.setCell (p := ⟨w.heap.size, 0, none⟩) (Nat.le_refl _) (.string ⟨#[]⟩)).setCell (p := ⟨w.heap.size, 1, none⟩) (Nat.le_refl _) (.slice none 0 0)))
        have k0 := HST1.out.res.cell 0
        have k1 := HST1.out.res.cell 1
        have z0 := HST1.out.res.frozen 0
        have z1 := HST1.out.res.frozen 1
        have n0 := HST1.out.non.cell 0
        have n1 := HST1.out.non.cell 1
        simp only [List.getElem?_cons_zero, List.getElem?_cons_succ] at k0 k1 n0 n1
        go_wp2_with fail
        refine bodyPost_ret (results_row3 rfl _ _ w.heap.size 24 [.string ⟨#[]⟩, .slice none 0 0] _ rfl HBK.out Tryz.underlying24 rfl pack_info) rfl ?_
        exact HPP.out
      | true =>
      have HNV := Lib.hid (nameV_yes hpB)
      have hnv : (nameV s).length ≤ 1000000 := by rw [HNV.out, List.length_drop]; omega
      go_wp2_with fail
      refine (isText_any (nameV s) _ (by omega)).mono ?_
      rintro e w4 ⟨rfl, hw⟩
      subst hw
      cases htx : txtB (nameV s) with
      | false =>
        have HRD := Lib.hid (HAT.out.bad HC.out (line_pack_no (fun h => by rw [HNV.out] at htx; rw [htx] at h; cases h.2)))
        clear htx hpB
        have HBK := Lib.hid ((HST1.out.res.set_ 0 (.string ⟨#[]⟩)).set_ 1 (.slice none 0 0))
        have HPP : Hid (RmPost text w (.returned (.tuple #[.agg #[.string ⟨#[]⟩, .slice none 0 0], .int .i64 (((1 : Nat) : Int)), .int .i64 (10)])) ((w3.setCell ⟨w.heap.size, 0, none⟩ (.string ⟨#[]⟩)).setCell ⟨w.heap.size, 1, none⟩ (.slice none 0 0))) := Lib.hid (RmPost.none_ (rm_syn HL.out HRD.out) ((HST1.out.below.setCell (p := ⟨w.heap.size, 0, none⟩) (Nat.le_refl _) (.string ⟨#[]⟩)).setCell (p := ⟨w.heap.size, 1, none⟩) (Nat.le_refl _) (.slice none 0 0)))
        have k0 := HST1.out.res.cell 0
        have k1 := HST1.out.res.cell 1
        have z0 := HST1.out.res.frozen 0
        have z1 := HST1.out.res.frozen 1
        have n0 := HST1.out.non.cell 0
        have n1 := HST1.out.non.cell 1
        simp only [List.getElem?_cons_zero, List.getElem?_cons_succ] at k0 k1 n0 n1
        go_wp2_with fail
        refine bodyPost_ret (results_row3 rfl _ _ w.heap.size 24 [.string ⟨#[]⟩, .slice none 0 0] _ rfl HBK.out Tryz.underlying24 rfl pack_info) rfl ?_
        exact HPP.out
      | true =>
      have HAT2 := Lib.hid (HAT.out.next HC.out (line_pack HS.out hpB (by rw [← HNV.out]; exact htx)))
      rw [← HNV.out] at HAT2
      have HST2 := Lib.hid (HST1.out.name_ (nameV s))
      have p0 := HST1.out.pk.cell 0
      have y0 := HST1.out.pk.frozen 0
      simp only [List.getElem?_cons_zero] at p0
      have hn2 : (nameV s).length ≤ text.length := by rw [HNV.out, List.length_drop]; omega
      clear htx hpB HNV
      generalize nameV s = nv at *
      go_wp2_with fail
      go_roundw
      case rel => exact ⟨pre ++ s ++ [10], { st with nm := nv }, r, 1 + 1, vE, by rw [show sealV ({ st with nm := nv } : RS) = [] from sealV_nil HS.out], by rw [show ({ st with nm := nv } : RS).sl = [] from HS.out]; rfl, by rw [HPL2.out]; push_cast; rfl, by first | rfl | go_num, HAT2, HST2, hn2, by rw [HPL2.out]; show st.ents.length ≤ _; omega⟩
      case measure => simp [intOf]; omega
    · have hi1 : ((i : Int) == 1) = false := by rw [beq_eq_false_iff_ne]; omega
      have hdi : decide (i = 1) = false := decide_eq_false hi
      have HDI := Lib.hid hdi
      clear hi hdi
      cases hsB : selB s with
      | false =>
        have HLE : Hid (∀ p, lineF (decide (i = 1)) p st s = entL st s) := Lib.hid (fun p => by rw [HDI.out]; exact line_ent HS.out (fun h => by unfold selB at hsB; rw [h.1] at hsB; cases hsB))
        clear hsB
        have HRL := Lib.hid (readListed_any s w3 (HG.out.ext HST1.out.below) (by omega))
        go_wp2_with fail
        refine HRL.out.mono ?_
        rintro e w5 ⟨x, ok, rfl, hb5, hok1, hok2⟩
        have HST5 := Lib.hid (HST1.out.call hb5)
        have HST6 := Lib.hid (HST5.out.call ((Below.refl w5.heap.size w5).alloc (Nat.le_refl _) (.cells #[.string (bstr x.path), .int .i64 x.size, .string (bstr x.digest)] 36)))
        have HKX := Lib.hid (Blk.new w5 36 [.string (bstr x.path), .int .i64 x.size, .string (bstr x.digest)])
        clear hb5 HRL HST1
        cases ok with
        | false =>
          have hno := hok2 rfl
          have HRD := Lib.hid (HAT.out.bad HC.out (by rw [HLE.out, entL_X, hno]; rfl))
          clear hok1 hok2 hno HKX HST5
          have HBK := Lib.hid ((HST6.out.res.set_ 0 (.string ⟨#[]⟩)).set_ 1 (.slice none 0 0))
          have HPP : Hid (RmPost text w (.returned (.tuple #[.agg #[.string ⟨#[]⟩, .slice none 0 0], .int .i64 ((i : Int)), .int .i64 (10)])) (((w5.alloc (.cells #[.string (bstr x.path), .int .i64 x.size, .string (bstr x.digest)] 36)).setCell ⟨w.heap.size, 0, none⟩ (.string ⟨#[]⟩)).setCell ⟨w.heap.size, 1, none⟩ (.slice none 0 0))) := Lib.hid (RmPost.none_ (rm_syn HL.out HRD.out) ((HST6.out.below.setCell (p := ⟨w.heap.size, 0, none⟩) (Nat.le_refl _) (.string ⟨#[]⟩)).setCell (p := ⟨w.heap.size, 1, none⟩) (Nat.le_refl _) (.slice none 0 0)))
          have k0 := HST6.out.res.cell 0
          have k1 := HST6.out.res.cell 1
          have z0 := HST6.out.res.frozen 0
          have z1 := HST6.out.res.frozen 1
          have n0 := HST6.out.non.cell 0
          have n1 := HST6.out.non.cell 1
          simp only [List.getElem?_cons_zero, List.getElem?_cons_succ] at k0 k1 n0 n1
          go_wp2_with fail
          refine bodyPost_ret (results_row3 rfl _ _ w.heap.size 24 [.string ⟨#[]⟩, .slice none 0 0] _ rfl HBK.out Tryz.underlying24 rfl pack_info) rfl ?_
          exact HPP.out
        | true =>
        have hyes := hok1 rfl
        have HAT2 := Lib.hid (HAT.out.next (st' := { st with ents := st.ents ++ [x] }) HC.out (by rw [HLE.out, entL_X, hyes]; rfl))
        have HXZ := Lib.hid (entX_sz hyes (by omega))
        clear hok1 hok2 hyes HST5
        have p1 := HST6.out.pk.cell 1
        simp only [List.getElem?_cons_zero, List.getElem?_cons_succ] at p1
        have hle6 : w.heap.size + 3 ≤ (w5.alloc (.cells #[.string (bstr x.path), .int .i64 x.size, .string (bstr x.digest)] 36)).heap.size := HST6.out.le
        have x0 := HKX.out.cell 0
        have x1 := HKX.out.cell 1
        have x2 := HKX.out.cell 2
        simp only [List.getElem?_cons_zero, List.getElem?_cons_succ] at x0 x1 x2
        go_wp2_with (at_builtin; refine app_new (w := w5.alloc (.cells #[.string (bstr x.path), .int .i64 x.size, .string (bstr x.digest)] 36)) rfl (.tmp 67) (.tmp 69) 22 rfl 36 (.agg #[.string ⟨#[]⟩, .int .i64 0, .string ⟨#[]⟩]) 3 40 Tryz.underlying22 ent_info rfl (by decide) (m := 1) [.string (bstr x.path), .int .i64 x.size, .string (bstr x.digest)] HST6.out.row hle6 rfl (by rw [World.size_alloc]; rfl) rfl (by decide) (by simp [Value.oneCell']) (by unfold maxLen; omega) (by omega) ?_; intro g4 c4 w4 HB4 HG4 HD4 HL4; have hbl4 := HD4.out _ (Below.refl _ (w5.alloc (.cells #[.string (bstr x.path), .int .i64 x.size, .string (bstr x.digest)] 36))); have hpk4 := HST6.out.pk.same (same_below hbl4) (by omega); have p4 := hpk4.cell 1; have y4 := hpk4.frozen 1; have HST7 := Lib.hid (HST6.out.push x HXZ.out HB4.out hbl4); clear hpk4 hbl4; simp only [List.getElem?_cons_zero, List.getElem?_cons_succ] at p4)
        go_roundw
        case rel => exact ⟨pre ++ s ++ [10], { st with ents := st.ents ++ [x] }, r, i + 1, _, by rw [show sealV ({ st with ents := st.ents ++ [x] } : RS) = [] from sealV_nil HS.out], by rw [show ({ st with ents := st.ents ++ [x] } : RS).sl = [] from HS.out]; rfl, by rw [HPL2.out]; push_cast; rfl, by first | rfl | go_num, HAT2, HST7, hnl, by rw [HPL2.out]; show (st.ents ++ [x]).length ≤ _; rw [List.length_append]; simp; omega⟩
        case measure => simp [intOf]; omega
      | true =>
      have HLV := Lib.hid (lastV_yes hsB)
      have hlv : (lastV s).length ≤ 1000000 := by rw [HLV.out, List.length_drop]; omega
      go_wp2_with fail
      refine (isText_any (lastV s) _ (by omega)).mono ?_
      rintro e w4 ⟨rfl, hw⟩
      subst hw
      cases htx : txtB (lastV s) with
      | false =>
        have HLE : Hid (∀ p, lineF (decide (i = 1)) p st s = entL st s) := Lib.hid (fun p => by rw [HDI.out]; exact line_ent HS.out (fun h => by rw [HLV.out] at htx; rw [htx] at h; cases h.2))
        clear hsB htx
        have HRL := Lib.hid (readListed_any s w3 (HG.out.ext HST1.out.below) (by omega))
        go_wp2_with fail
        refine HRL.out.mono ?_
        rintro e w5 ⟨x, ok, rfl, hb5, hok1, hok2⟩
        have HST5 := Lib.hid (HST1.out.call hb5)
        have HST6 := Lib.hid (HST5.out.call ((Below.refl w5.heap.size w5).alloc (Nat.le_refl _) (.cells #[.string (bstr x.path), .int .i64 x.size, .string (bstr x.digest)] 36)))
        have HKX := Lib.hid (Blk.new w5 36 [.string (bstr x.path), .int .i64 x.size, .string (bstr x.digest)])
        clear hb5 HRL HST1
        cases ok with
        | false =>
          have hno := hok2 rfl
          have HRD := Lib.hid (HAT.out.bad HC.out (by rw [HLE.out, entL_X, hno]; rfl))
          clear hok1 hok2 hno HKX HST5
          have HBK := Lib.hid ((HST6.out.res.set_ 0 (.string ⟨#[]⟩)).set_ 1 (.slice none 0 0))
          have HPP : Hid (RmPost text w (.returned (.tuple #[.agg #[.string ⟨#[]⟩, .slice none 0 0], .int .i64 ((i : Int)), .int .i64 (10)])) (((w5.alloc (.cells #[.string (bstr x.path), .int .i64 x.size, .string (bstr x.digest)] 36)).setCell ⟨w.heap.size, 0, none⟩ (.string ⟨#[]⟩)).setCell ⟨w.heap.size, 1, none⟩ (.slice none 0 0))) := Lib.hid (RmPost.none_ (rm_syn HL.out HRD.out) ((HST6.out.below.setCell (p := ⟨w.heap.size, 0, none⟩) (Nat.le_refl _) (.string ⟨#[]⟩)).setCell (p := ⟨w.heap.size, 1, none⟩) (Nat.le_refl _) (.slice none 0 0)))
          have k0 := HST6.out.res.cell 0
          have k1 := HST6.out.res.cell 1
          have z0 := HST6.out.res.frozen 0
          have z1 := HST6.out.res.frozen 1
          have n0 := HST6.out.non.cell 0
          have n1 := HST6.out.non.cell 1
          simp only [List.getElem?_cons_zero, List.getElem?_cons_succ] at k0 k1 n0 n1
          go_wp2_with fail
          refine bodyPost_ret (results_row3 rfl _ _ w.heap.size 24 [.string ⟨#[]⟩, .slice none 0 0] _ rfl HBK.out Tryz.underlying24 rfl pack_info) rfl ?_
          exact HPP.out
        | true =>
        have hyes := hok1 rfl
        have HAT2 := Lib.hid (HAT.out.next (st' := { st with ents := st.ents ++ [x] }) HC.out (by rw [HLE.out, entL_X, hyes]; rfl))
        have HXZ := Lib.hid (entX_sz hyes (by omega))
        clear hok1 hok2 hyes HST5
        have p1 := HST6.out.pk.cell 1
        simp only [List.getElem?_cons_zero, List.getElem?_cons_succ] at p1
        have hle6 : w.heap.size + 3 ≤ (w5.alloc (.cells #[.string (bstr x.path), .int .i64 x.size, .string (bstr x.digest)] 36)).heap.size := HST6.out.le
        have x0 := HKX.out.cell 0
        have x1 := HKX.out.cell 1
        have x2 := HKX.out.cell 2
        simp only [List.getElem?_cons_zero, List.getElem?_cons_succ] at x0 x1 x2
        go_wp2_with (at_builtin; refine app_new (w := w5.alloc (.cells #[.string (bstr x.path), .int .i64 x.size, .string (bstr x.digest)] 36)) rfl (.tmp 67) (.tmp 69) 22 rfl 36 (.agg #[.string ⟨#[]⟩, .int .i64 0, .string ⟨#[]⟩]) 3 40 Tryz.underlying22 ent_info rfl (by decide) (m := 1) [.string (bstr x.path), .int .i64 x.size, .string (bstr x.digest)] HST6.out.row hle6 rfl (by rw [World.size_alloc]; rfl) rfl (by decide) (by simp [Value.oneCell']) (by unfold maxLen; omega) (by omega) ?_; intro g4 c4 w4 HB4 HG4 HD4 HL4; have hbl4 := HD4.out _ (Below.refl _ (w5.alloc (.cells #[.string (bstr x.path), .int .i64 x.size, .string (bstr x.digest)] 36))); have hpk4 := HST6.out.pk.same (same_below hbl4) (by omega); have p4 := hpk4.cell 1; have y4 := hpk4.frozen 1; have HST7 := Lib.hid (HST6.out.push x HXZ.out HB4.out hbl4); clear hpk4 hbl4; simp only [List.getElem?_cons_zero, List.getElem?_cons_succ] at p4)
        go_roundw
        case rel => exact ⟨pre ++ s ++ [10], { st with ents := st.ents ++ [x] }, r, i + 1, _, by rw [show sealV ({ st with ents := st.ents ++ [x] } : RS) = [] from sealV_nil HS.out], by rw [show ({ st with ents := st.ents ++ [x] } : RS).sl = [] from HS.out]; rfl, by rw [HPL2.out]; push_cast; rfl, by first | rfl | go_num, HAT2, HST7, hnl, by rw [HPL2.out]; show (st.ents ++ [x]).length ≤ _; rw [List.length_append]; simp; omega⟩
        case measure => simp [intOf]; omega
      | true =>
      have HLS : Hid (lineF (decide (i = 1)) pre st s = some { st with sl := lastV s, pre := pre }) := Lib.hid (by rw [HDI.out, HLV.out]; exact line_seal HS.out hsB (by rw [← HLV.out]; exact htx))
      have HAT2 := Lib.hid (HAT.out.next HC.out HLS.out)
      have hne : lastV s ≠ [] := (txt_no htx).2.2
      have HE2 : Hid ((bstr text).extract 0 pre.length = bstr pre) := Lib.hid (by rw [extract_head, HAT.out.1]; congr 1; exact List.take_left' rfl)
      have HNE := Lib.hid hne
      clear htx hsB HLV HLS hne
      generalize lastV s = lv at *
      go_wp2_with fail
      rw [HE2.out]
      refine (cdigest_any pre _ (by omega)).mono ?_
      rintro e w5 ⟨rfl, hb5⟩
      have HST5 := Lib.hid ((HST1.out.call hb5).seald lv pre)
      have hdl : ({ st with sl := lv, pre := pre } : RS).sl = lv := rfl
      have HSD : Hid ((!decide (({ st with sl := lv, pre := pre } : RS).sl = [])) = true) := Lib.hid (by rw [hdl, decide_eq_false HNE.out]; rfl)
      clear hb5 HST1 hdl
      by_cases hq : digL pre = lv
      · have hb1 : ((bstr (digL pre)).toList == (bstr lv).toList) = true := str_beq (by rw [hq])
        have HSV : Hid (sealV { st with sl := lv, pre := pre } = []) := Lib.hid (if_pos hq)
        clear hq
        go_wp2_with fail
        go_roundw
        case rel => exact ⟨pre ++ s ++ [10], { st with sl := lv, pre := pre }, r, i + 1, vE, by rw [HSV.out]; rfl, by rw [HSD.out], by rw [HPL2.out]; push_cast; rfl, by first | rfl | go_num, HAT2, HST5, hnl, by rw [HPL2.out]; show st.ents.length ≤ _; omega⟩
        case measure => simp [intOf]; omega
      · have hb1 : ((bstr (digL pre)).toList == (bstr lv).toList) = false := str_bne (fun e => hq (bstr_inj e))
        have HSV : Hid (sealV { st with sl := lv, pre := pre } = lv) := Lib.hid (if_neg hq)
        clear hq
        go_wp2_with fail
        go_roundw
        case rel => exact ⟨pre ++ s ++ [10], { st with sl := lv, pre := pre }, r, i + 1, vE, by rw [HSV.out], by rw [HSD.out], by rw [HPL2.out]; push_cast; rfl, by first | rfl | go_num, HAT2, HST5, hnl, by rw [HPL2.out]; show st.ents.length ≤ _; omega⟩
        case measure => simp [intOf]; omega
end Go.Proofs.YtgfacedfndcgdaaGreatDoor
