/-
  number, areRows and manifestReader.line of the reference of chapter 11.
-/
import Derived.Test.YtgfacedfndcgdaaGreatDoorManR
import Derived.Deep.RegionLaw
namespace Go.Proofs.YtgfacedfndcgdaaGreatDoor
open Go.RowKit
set_option linter.unusedVariables false
set_option linter.unusedSimpArgs false

def numR (b : List UInt8) : Int := if numB b = true then numV b else 0
set_option maxRecDepth 100000 in
set_option maxHeartbeats 4000000 in
theorem rnumber_any (b : List UInt8) (w : World) (hb : b.length ≤ 1000000) :
    Calls Tryz.prog 43 #[.string (bstr b)] w fun e w' => e = .returned (.tuple #[.int .i64 (numR b), .bool (numB b)]) ∧ Below w.heap.size w w' := by
  have hbz : (bstr b).size = b.length := rfl
  cases hbl : b with
  | nil =>
    have HR0 : Hid (numR [] = 0) := Lib.hid (by decide)
    have HF : Hid (numB [] = false) := Lib.hid (by decide)
    have hem : (bstr ([] : List UInt8)).toList.isEmpty = true := by rw [bstr_toList]; rfl
    clear hbl hbz hb
    go_enter Tryz.func43, Tryz.ntmps43
    go_wp2_with fail
    go_ret2
    exact ⟨by rw [HR0.out, HF.out]; rfl, Below.refl _ _⟩
  | cons c0 r =>
  rw [hbl] at hbz hb
  clear hbl
  have hem : (bstr (c0 :: r)).toList.isEmpty = false := by rw [bstr_toList]; rfl
  have hg : ∀ h, (bstr (c0 :: r))[0]'h = c0 := fun _ => rfl
  have hd := Lib.hid (fun w => trim_any (c0 :: r) digSet w (by omega) (by decide) (by decide))
  have HE := Lib.hid (trim_isEmpty (c0 :: r) digSet)
  have hlp : 1 ≤ (c0 :: r).length := by simp
  have HNB : Hid ((c0 :: r).length ≤ 9 → numB (c0 :: r) = ((c0 :: r).all (digSet.contains ·) && !(decide (c0 = 48) && decide (c0 :: r ≠ [48])))) := Lib.hid (fun h9 => by
    unfold numB
    rw [decide_eq_true (show 1 ≤ (c0 :: r).length by simp), decide_eq_true h9, Bool.true_and, Bool.true_and]
    simp)
  have HN9 : Hid (¬ (c0 :: r).length ≤ 9 → numB (c0 :: r) = false) := Lib.hid (fun h9 => by unfold numB; rw [decide_eq_false h9]; simp)
  have HL1 : Hid (c0 :: r ≠ [48] → c0 = 48 → 1 < (c0 :: r).length) := Lib.hid (fun h e => by
    cases r with
    | nil => exact absurd (by rw [e]) h
    | cons _ _ => simp)
  generalize hbb : c0 :: r = b at *
  have HBB := Lib.hid hbb
  clear hbb
  by_cases h9 : b.length ≤ 9
  case neg =>
    have hb9 : (9 : Int) < (b.length : Int) := by omega
    go_enter Tryz.func43, Tryz.ntmps43
    have HF : Hid (numB b = false) := Lib.hid (HN9.out h9)
    have HR0 : Hid (numR b = 0) := Lib.hid (if_neg (by rw [HF.out]; decide))
    go_wp2_with fail
    go_ret2
    exact ⟨by rw [HR0.out, HF.out]; rfl, Below.refl _ _⟩
  have hb9 : ¬ (9 : Int) < (b.length : Int) := by omega
  have HN := Lib.hid (HNB.out h9)
  clear HNB HN9
  by_cases hbad : c0 = 48 ∧ b ≠ [48]
  · have hl1 := HL1.out hbad.2 hbad.1
    have hb1 : (1 : Int) < (b.length : Int) := by omega
    have hb48 : ((((bstr b)[0]'(by rw [hbz]; exact hlp)).toNat : Int) == 48) = true := by rw [hg, hbad.1]; rfl
    have hwhy : numB b = false := by rw [HN.out, decide_eq_true hbad.1, decide_eq_true hbad.2]; simp
    clear hg hbad hl1
    go_enter Tryz.func43, Tryz.ntmps43
    have HF : Hid (numB b = false) := Lib.hid (hwhy)
    have HR0 : Hid (numR b = 0) := Lib.hid (if_neg (by rw [HF.out]; decide))
    go_wp2_with fail
    go_ret2
    exact ⟨by rw [HR0.out, HF.out]; rfl, Below.refl _ _⟩
  have HN2 : Hid (numB b = b.all (digSet.contains ·)) := Lib.hid (by
    rw [HN.out]
    by_cases e : c0 = 48
    · have : b = [48] := Decidable.byContradiction fun h => hbad ⟨e, h⟩
      rw [decide_eq_false (show ¬ b ≠ [48] from fun h => h this)]; simp
    · rw [decide_eq_false e]; simp)
  by_cases h1 : 1 < b.length
  · have hb1 : (1 : Int) < (b.length : Int) := by omega
    have hb48 : ((((bstr b)[0]'(by rw [hbz]; exact hlp)).toNat : Int) == 48) = false := by
      rw [hg, beq_eq_false_iff_ne]
      intro h
      refine hbad ⟨?_, fun e => by rw [e] at h1; simp at h1⟩
      apply UInt8.toNat_inj.1
      show c0.toNat = 48
      omega
    clear hg hbad h1 HN HL1
    go_enter Tryz.func43, Tryz.ntmps43
    go_wp2_with fail
    refine (hd.out w).mono ?_
    rintro e w2 ⟨rfl, hb2⟩
    have HB2 := Lib.hid hb2
    clear hb2 hd
    generalize Lib.trimS b digSet = tx at *
    by_cases hall : b.all (digSet.contains ·) = true
    case neg =>
      have hemx : (bstr tx).toList.isEmpty = false := by rw [HE.out]; simpa using hall
      have hwhy : numB b = false := by rw [HN2.out]; simpa using hall
      clear hall HE
      have HF : Hid (numB b = false) := Lib.hid (hwhy)
      have HR0 : Hid (numR b = 0) := Lib.hid (if_neg (by rw [HF.out]; decide))
      go_wp2_with fail
      go_ret2
      exact ⟨by rw [HR0.out, HF.out]; rfl, HB2.out⟩
    have hemx : (bstr tx).toList.isEmpty = true := HE.out.trans hall
    have hnum : numB b = true := HN2.out.trans hall
    have hca := Lib.hid (atoi_any b w2 hnum)
    have HF := Lib.hid hnum
    have HR0 : Hid (numR b = numV b) := Lib.hid (if_pos hnum)
    clear hall HE hnum
    go_wp2_with fail
    refine hca.out.mono ?_
    rintro e w3 ⟨rfl, hb3⟩
    have HB3 := Lib.hid (below_tr3 HB2.out hb3 HB2.out.size)
    clear hb3 hca
    go_wp2_with fail
    go_ret2
    exact ⟨by rw [HR0.out, HF.out]; rfl, HB3.out⟩
  · have hb1 : ¬ (1 : Int) < (b.length : Int) := by omega
    clear hg hbad h1 HN HL1
    go_enter Tryz.func43, Tryz.ntmps43
    go_wp2_with fail
    refine (hd.out w).mono ?_
    rintro e w2 ⟨rfl, hb2⟩
    have HB2 := Lib.hid hb2
    clear hb2 hd
    generalize Lib.trimS b digSet = tx at *
    by_cases hall : b.all (digSet.contains ·) = true
    case neg =>
      have hemx : (bstr tx).toList.isEmpty = false := by rw [HE.out]; simpa using hall
      have hwhy : numB b = false := by rw [HN2.out]; simpa using hall
      clear hall HE
      have HF : Hid (numB b = false) := Lib.hid (hwhy)
      have HR0 : Hid (numR b = 0) := Lib.hid (if_neg (by rw [HF.out]; decide))
      go_wp2_with fail
      go_ret2
      exact ⟨by rw [HR0.out, HF.out]; rfl, HB2.out⟩
    have hemx : (bstr tx).toList.isEmpty = true := HE.out.trans hall
    have hnum : numB b = true := HN2.out.trans hall
    have hca := Lib.hid (atoi_any b w2 hnum)
    have HF := Lib.hid hnum
    have HR0 : Hid (numR b = numV b) := Lib.hid (if_pos hnum)
    clear hall HE hnum
    go_wp2_with fail
    refine hca.out.mono ?_
    rintro e w3 ⟨rfl, hb3⟩
    have HB3 := Lib.hid (below_tr3 HB2.out hb3 HB2.out.size)
    clear hb3 hca
    go_wp2_with fail
    go_ret2
    exact ⟨by rw [HR0.out, HF.out]; rfl, HB3.out⟩
theorem sg_count0 : ∀ (n : Nat) (s : List UInt8), s.length ≤ n → (sg s).length ≤ s.length + 1
  | n, s, hn => by
    rcases sp_cases 32 s with h | ⟨y, r, rfl, h⟩
    · rw [sg_one h]; simp
    · rw [sg_cons h]
      cases n with
      | zero => simp at hn
      | succ n =>
        have := sg_count0 n r (by simp at hn; omega)
        simp; omega
theorem sg_count (s : List UInt8) (h : s.length ≤ 400000) : (sg s).length ≤ 1000001 := by have := sg_count0 _ s (Nat.le_refl _); omega
set_option maxRecDepth 100000 in
set_option maxHeartbeats 4000000 in
theorem areRows_any (ws : List (List UInt8)) (b : Nat) (w : World) (hB : Blk w b 9 (ws.map fun x => Value.string (bstr x))) (hl : ws.length ≤ 1000001) (hs : ∀ x ∈ ws, x.length ≤ 1000000) :
    Calls Tryz.prog 42 #[.slice (some ⟨b, 0, none⟩) ws.length ws.length] w fun e w' => e = .returned (.bool (ws.all txtB)) ∧ w' = w := by
  have HB := Lib.hid hB
  have HS := Lib.hid hs
  clear hB hs
  go_enter Tryz.func42, Tryz.ntmps42
  go_wp2_with fail
  go_loopw [7] (fun i wr => ∃ k : Nat, k ≤ ws.length ∧ i = .int .i64 k ∧ Hid ((ws.take k).all txtB = true) ∧ wr = w) (fun i _ => ws.length - (intOf i).toNat)
  case atStart => exact ⟨0, Nat.zero_le _, rfl, Lib.hid rfl, rfl⟩
  case round =>
    obtain ⟨k, hk, rfl, HT, rfl⟩ := hrel
    by_cases hlt : k < ws.length
    · have hc : wr.cell? ⟨b, k, none⟩ = some (.string (bstr ws[k])) := (HB.out.cell k).trans (by rw [List.getElem?_map, List.getElem?_eq_getElem hlt]; rfl)
      have hsk := HS.out _ (List.getElem_mem hlt)
      have HY : Hid (txtB ws[k] = true → (ws.take (k + 1)).all txtB = true) := Lib.hid (fun h => by rw [List.take_succ_eq_append_getElem hlt, List.all_append, HT.out]; simp [h])
      have HNO : Hid (txtB ws[k] = false → ws.all txtB = false) := Lib.hid (fun h => by
        cases e : ws.all txtB with
        | false => rfl
        | true => rw [List.all_eq_true] at e; rw [e _ (List.getElem_mem hlt)] at h; cases h)
      have HNE : Hid (txtB ws[k] = true → (bstr ws[k]).toList.isEmpty = false) := Lib.hid (fun h => by
        rw [bstr_toList]
        have := (txt_no h).2.2
        cases hh : ws[k] with
        | nil => exact absurd hh this
        | cons _ _ => rfl)
      have hxz : (bstr ws[k]).size = ws[k].length := rfl
      generalize ws[k] = x at *
      go_wp2_with fail
      refine (refIsRow_any x (x.length : Int) wr (by omega)).mono ?_
      rintro e w1 ⟨rfl, hw⟩
      subst hw
      rw [show isRowB x (x.length : Int) = txtB x from rfl]
      cases hq : txtB x with
      | false =>
        have HF := Lib.hid (HNO.out hq)
        clear hq HY HNO HNE
        go_wp2_with fail
        go_ret
        exact ⟨by rw [HF.out]; rfl, rfl⟩
      | true =>
        have hem := HNE.out hq
        have HT2 := Lib.hid (HY.out hq)
        clear hq HY HNO HNE
        go_wp2_with fail
        go_roundw
        case rel => exact ⟨k + 1, by omega, by go_num, HT2, by first | trivial | rfl⟩
        case measure => simp [intOf]; omega
    · have HF : Hid (ws.all txtB = true) := Lib.hid (by
        have h := HT.out
        rwa [List.take_of_length_le (by omega)] at h)
      go_wp2_with fail
      go_ret
      exact ⟨by rw [HF.out]; rfl, rfl⟩
theorem rows_two {a b : List UInt8} (h : ([a, b] : List (List UInt8)).all txtB = true) : txtB a = true ∧ txtB b = true := by simpa using h
theorem rows_three {a b c : List UInt8} (h : ([a, b, c] : List (List UInt8)).all txtB = true) : txtB a = true ∧ txtB b = true ∧ txtB c = true := by simpa using h
theorem lf_rows {first : Bool} {pre : List UInt8} {st : RS} {s : List UInt8} (h : (sg s).all txtB = false) : lineF first pre st s = none := by
  unfold lineF
  by_cases hs : st.sl ≠ []
  · rw [if_pos hs]
  rw [if_neg hs]
  split
  · split
    · rename_i a b e
      refine if_neg (fun hc => ?_)
      rw [e, hc.1] at h
      simp [hc.2] at h
      revert h; decide
    · rfl
  · split
    · rename_i a b e
      refine (if_neg (fun hc => ?_))
      rw [e, hc.1] at h
      simp [hc.2] at h
      revert h; decide
    · unfold entL
      split
      · rename_i a b c e
        refine if_neg (fun hc => ?_)
        rw [Bool.and_eq_true, Bool.and_eq_true] at hc
        rw [e] at h
        simp [hc.1, hc.2.2, num_txt hc.2.1] at h
      · rfl
theorem lf_first {pre : List UInt8} {st : RS} {s a b : List UInt8} (hs : st.sl = []) (e : sg s = [a, b]) (hb : txtB b = true) : lineF true pre st s = if a = kPack then some { st with nm := b } else none := by
  unfold lineF
  rw [if_neg (by rw [hs]; simp), if_pos rfl, e]
  by_cases h : a = kPack
  · simp [h, hb]
  · simp [h]
theorem lf_first_no {pre : List UInt8} {st : RS} {s : List UInt8} (hs : st.sl = []) (e : (sg s).length ≠ 2) : lineF true pre st s = none := by
  unfold lineF
  rw [if_neg (by rw [hs]; simp), if_pos rfl]
  split
  · rename_i a b e2; rw [e2] at e; exact absurd rfl e
  · rfl
theorem lf_two {pre : List UInt8} {st : RS} {s a b : List UInt8} (hs : st.sl = []) (e : sg s = [a, b]) (hb : txtB b = true) : lineF false pre st s = if a = kSeal then some { st with sl := b, pre := pre } else none := by
  unfold lineF
  rw [if_neg (by rw [hs]; simp), if_neg (by decide), e]
  by_cases h : a = kSeal
  · simp [h, hb]
  · simp [h]
theorem lf_three {pre : List UInt8} {st : RS} {s a b c : List UInt8} (hs : st.sl = []) (e : sg s = [a, b, c]) (ha : txtB a = true) (hc : txtB c = true) : lineF false pre st s = if numB b = true then some { st with ents := st.ents ++ [⟨c, numV b, a⟩] } else none := by
  unfold lineF entL
  rw [if_neg (by rw [hs]; simp), if_neg (by decide), e]
  simp [ha, hc]
theorem lf_no {pre : List UInt8} {st : RS} {s : List UInt8} (hs : st.sl = []) (h2 : (sg s).length ≠ 2) (h3 : (sg s).length ≠ 3) : lineF false pre st s = none := by
  unfold lineF
  rw [if_neg (by rw [hs]; simp), if_neg (by decide)]
  split
  · rename_i a b e2; rw [e2] at h2; exact absurd rfl h2
  · unfold entL
    split
    · rename_i a b c e2; rw [e2] at h3; exact absurd rfl h3
    · rfl
theorem two_of {l : List (List UInt8)} (h : l.length = 2) : ∃ a b, l = [a, b] := by
  match l, h with
  | [a, b], _ => exact ⟨a, b, rfl⟩
/-- What the reference's reader keeps in memory. -/
structure RrSt (w : World) (st : RS) (vE : Value) (wr : World) : Prop where
  res : Blk wr w.heap.size 24 [.string ⟨#[]⟩, .slice none 0 0]
  rd : Blk wr (w.heap.size + 1) 49 [.string (bstr st.nm), vE, .string (bstr st.sl)]
  row : wr.ownsRow (w.heap.size + 2) 36 3 vE st.ents.length (st.ents.flatMap entCells)
  below : Below w.heap.size w wr
  le : w.heap.size + 2 ≤ wr.heap.size
  sz : ∀ x ∈ st.ents, ESz x
structure RrOk (w wr : World) : Prop where
  res : Blk wr w.heap.size 24 [.string ⟨#[]⟩, .slice none 0 0]
  below : Below w.heap.size w wr
theorem RrSt.ok {w wr : World} {st : RS} {vE : Value} (h : RrSt w st vE wr) : RrOk w wr := ⟨h.res, h.below⟩
theorem RrSt.call {w wr w' : World} {st : RS} {vE : Value} (h : RrSt w st vE wr) (hb : Below wr.heap.size wr w') : RrSt w st vE w' where
  res := h.res.same (same_below hb) h.res.lt
  rd := h.rd.same (same_below hb) h.rd.lt
  row := own_blw3 h.row hb
  below := below_tr3 h.below hb h.below.size
  le := Nat.le_trans h.le hb.size
  sz := h.sz
theorem RrSt.name_ {w wr : World} {st : RS} {vE : Value} (h : RrSt w st vE wr) (x : List UInt8) : RrSt w { st with nm := x } vE (wr.setCell ⟨w.heap.size + 1, 0, none⟩ (.string (bstr x))) where
  res := h.res.set_o (by omega) _
  rd := h.rd.set_ 0 (.string (bstr x))
  row := h.row.kept (set_grown3 wr (w.heap.size + 1) 0 _) (by
    cases hv : vE.ownBlock with
    | none => exact .inl rfl
    | some g => exact .inr (fun e => by injection e with e; have := (h.row.lt g hv).1; omega))
  below := h.below.setCell (p := ⟨w.heap.size + 1, 0, none⟩) (by show w.heap.size ≤ w.heap.size + 1; omega) _
  le := by have := h.le; simpa using this
  sz := h.sz
theorem RrSt.seal_ {w wr : World} {st : RS} {vE : Value} (h : RrSt w st vE wr) (x pre : List UInt8) : RrSt w { st with sl := x, pre := pre } vE (wr.setCell ⟨w.heap.size + 1, 2, none⟩ (.string (bstr x))) where
  res := h.res.set_o (by omega) _
  rd := h.rd.set_ 2 (.string (bstr x))
  row := h.row.kept (set_grown3 wr (w.heap.size + 1) 2 _) (by
    cases hv : vE.ownBlock with
    | none => exact .inl rfl
    | some g => exact .inr (fun e => by injection e with e; have := (h.row.lt g hv).1; omega))
  below := h.below.setCell (p := ⟨w.heap.size + 1, 2, none⟩) (by show w.heap.size ≤ w.heap.size + 1; omega) _
  le := by have := h.le; simpa using this
  sz := h.sz
theorem RrSt.push {w wr w4 : World} {st : RS} {vE v' : Value} (h : RrSt w st vE wr) (x : Ent) (hx : ESz x) (hO : w4.ownsRow (w.heap.size + 2) 36 3 v' (st.ents.length + 1) (st.ents.flatMap entCells ++ entCells x)) (hb : Below (w.heap.size + 2) wr w4) : RrSt w { st with ents := st.ents ++ [x] } v' (w4.setCell ⟨w.heap.size + 1, 1, none⟩ v') where
  res := (h.res.same (same_below hb) (by omega)).set_o (by omega) _
  rd := (h.rd.same (same_below hb) (by omega)).set_ 1 v'
  row := by
    show World.ownsRow _ _ _ _ _ (st.ents ++ [x]).length ((st.ents ++ [x]).flatMap entCells)
    rw [List.length_append, List.flatMap_append, List.flatMap_singleton]
    exact hO.kept (set_grown3 w4 (w.heap.size + 1) 1 _) (by
      cases hv : v'.ownBlock with
      | none => exact .inl rfl
      | some g => exact .inr (fun e => by injection e with e; have := (hO.lt g hv).1; omega))
  below := (h.below.trans (hb.mono (by omega))).setCell (p := ⟨w.heap.size + 1, 1, none⟩) (by show w.heap.size ≤ w.heap.size + 1; omega) _
  le := by have h1 := h.le; have h2 := hb.size; simp; omega
  sz := fun y hy => by
    rcases List.mem_append.1 hy with e | e
    · exact h.sz y e
    · rw [List.mem_singleton.1 e]; exact hx
def LnPost (w0 : World) (st : RS) (first : Bool) (pre s : List UInt8) (e : Ending) (w' : World) : Prop :=
  ∃ ok : Bool, e = .returned (.bool ok) ∧ RrOk w0 w' ∧ (ok = true → ∃ st' vE', lineF first pre st s = some st' ∧ RrSt w0 st' vE' w') ∧ (ok = false → lineF first pre st s = none)
theorem LnPost.no {w0 w' : World} {st : RS} {first : Bool} {pre s : List UInt8} (h : lineF first pre st s = none) (hk : RrOk w0 w') : LnPost w0 st first pre s (.returned (.bool false)) w' := ⟨false, rfl, hk, fun h => (by cases h), fun _ => h⟩
theorem LnPost.yes {w0 w' : World} {st st' : RS} {vE : Value} {first : Bool} {pre s : List UInt8} (h : lineF first pre st s = some st') (hk : RrSt w0 st' vE w') : LnPost w0 st first pre s (.returned (.bool true)) w' := ⟨true, rfl, hk.ok, fun _ => ⟨st', vE, h, hk⟩, fun h => (by cases h)⟩
set_option maxRecDepth 100000 in
set_option maxHeartbeats 16000000 in
theorem line_any (w0 : World) (st : RS) (vE : Value) (first : Bool) (pre s : List UInt8) (w : World) (hG : GInt w0) (h : RrSt w0 st vE w) (hs : s.length ≤ 400000) (hel : st.ents.length ≤ 400000) :
    Calls Tryz.prog 23 #[.pointer (some ⟨w0.heap.size + 1, 0, none⟩), .string (bstr s), .bool first] w (LnPost w0 st first pre s) := by
  have HSP := Lib.hid (splitSp_any s w (hG.ext h.below) (by omega))
  have H := Lib.hid h
  have hle := h.le
  clear h hG
  go_enter Tryz.func23, Tryz.ntmps23
  go_wp2_with fail
  refine HSP.out.mono ?_
  rintro e w1 ⟨rfl, hw1⟩
  have hal := (Below.refl w.heap.size w).alloc (Nat.le_refl _) (.cells ((sg s).map fun x => Value.string (bstr x)).toArray 9)
  rw [← hw1] at hal
  have HST := Lib.hid (H.out.call hal)
  have HR : Hid (Blk w1 w.heap.size 9 ((sg s).map fun x => Value.string (bstr x))) := Lib.hid (by rw [hw1]; exact Blk.new w 9 ((sg s).map fun x => Value.string (bstr x)))
  have HLE := Lib.hid (sg_len_le _ s (Nat.le_refl _))
  have r2 := HST.out.rd.cell 2
  simp only [List.getElem?_cons_zero, List.getElem?_cons_succ] at r2
  clear hal hw1 HSP H
  by_cases hsl : st.sl = []
  case neg =>
    have HN := Lib.hid (line_sealed (first := first) (pre := pre) (s := s) hsl)
    have hem : (bstr st.sl).toList.isEmpty = false := by
      rw [bstr_toList]
      cases hh : st.sl with
      | nil => exact absurd hh hsl
      | cons _ _ => rfl
    clear hsl
    go_wp2_with fail
    go_ret
    exact LnPost.no HN.out HST.out.ok
  have HS := Lib.hid hsl
  have hem : (bstr st.sl).toList.isEmpty = true := by rw [bstr_toList, hsl]; rfl
  have hwl : (sg s).length ≤ 1000001 := sg_count s hs
  have HAR := Lib.hid (areRows_any (sg s) w.heap.size w1 HR.out hwl (fun x hx => by have := HLE.out x hx; omega))
  clear hsl
  go_wp2_with fail
  refine HAR.out.mono ?_
  rintro e w2 ⟨rfl, hw⟩
  subst hw
  cases hrows : (sg s).all txtB with
  | false =>
    have HN := Lib.hid (lf_rows (first := first) (pre := pre) (st := st) hrows)
    clear hrows HAR
    go_wp2_with fail
    go_ret
    exact LnPost.no HN.out HST.out.ok
  | true =>
  have HRW := Lib.hid hrows
  clear hrows HAR r2 hem
  by_cases h2 : (sg s).length = 2
  · obtain ⟨a, b, hab⟩ := two_of h2
    have HAB := Lib.hid hab
    have htx := rows_two (by rw [← hab]; exact HRW.out)
    have HTB := Lib.hid htx.2
    rw [hab] at HR ⊢
    have hl2 : ([a, b] : List (List UInt8)).length = 2 := rfl
    rw [hl2]
    have c0 : w2.cell? ⟨w.heap.size, 0, none⟩ = some (.string (bstr a)) := HR.out.cell 0
    have c1 : w2.cell? ⟨w.heap.size, 1, none⟩ = some (.string (bstr b)) := HR.out.cell 1
    clear h2 hab htx hl2 HR HLE HRW hwl
    cases first with
    | true =>
      have HLF := Lib.hid (lf_first (pre := pre) HS.out HAB.out HTB.out)
      have HST2 := Lib.hid (HST.out.name_ b)
      have p0 := HST.out.rd.cell 0
      have z0 := HST.out.rd.frozen 0
      simp only [List.getElem?_cons_zero, List.getElem?_cons_succ] at p0
      have c0' : (w2.setCell ⟨w0.heap.size + 1, 0, none⟩ (.string (bstr b))).cell? ⟨w.heap.size, 0, none⟩ = some (.string (bstr a)) := by
        rw [← c0]
        exact World.cell?_setCell_other (w := w2) (a := ⟨w0.heap.size + 1, 0, none⟩) (b := ⟨w.heap.size, 0, none⟩) _ (by intro e; injection e with e; omega)
      by_cases hk : a = kPack
      · have hb1 : ((bstr a).toList == [112, 97, 99, 107, 97, 103, 101]) = true := by rw [bstr_toList, hk]; rfl
        have HY : Hid (lineF true pre st s = some { st with nm := b }) := Lib.hid (by rw [HLF.out, if_pos hk])
        clear hk HLF
        go_wp2_with fail
        go_ret
        exact LnPost.yes HY.out HST2.out
      · have hb1 : ((bstr a).toList == [112, 97, 99, 107, 97, 103, 101]) = false := by rw [bstr_toList, beq_eq_false_iff_ne]; exact hk
        have HY : Hid (lineF true pre st s = none) := Lib.hid (by rw [HLF.out, if_neg hk])
        clear hk HLF
        go_wp2_with fail
        go_ret
        exact LnPost.no HY.out HST2.out.ok
    | false =>
      have HLF := Lib.hid (lf_two (pre := pre) HS.out HAB.out HTB.out)
      by_cases hk : a = kSeal
      · have hb1 : ((bstr a).toList == [115, 101, 97, 108]) = true := by rw [bstr_toList, hk]; rfl
        have HY : Hid (lineF false pre st s = some { st with sl := b, pre := pre }) := Lib.hid (by rw [HLF.out, if_pos hk])
        have HST2 := Lib.hid (HST.out.seal_ b pre)
        have p2 := HST.out.rd.cell 2
        have z2 := HST.out.rd.frozen 2
        simp only [List.getElem?_cons_zero, List.getElem?_cons_succ] at p2
        clear hk HLF
        go_wp2_with fail
        go_ret
        exact LnPost.yes HY.out HST2.out
      · have hb1 : ((bstr a).toList == [115, 101, 97, 108]) = false := by rw [bstr_toList, beq_eq_false_iff_ne]; exact hk
        have HY : Hid (lineF false pre st s = none) := Lib.hid (by rw [HLF.out, if_neg hk])
        clear hk HLF
        go_wp2_with fail
        go_ret
        exact LnPost.no HY.out HST.out.ok
  have hb2 : (((sg s).length : Int) == 2) = false := by rw [beq_eq_false_iff_ne]; omega
  cases first with
  | true =>
    have HY := Lib.hid (lf_first_no (pre := pre) HS.out h2)
    have hpos : 0 < (sg s).length := List.length_pos_iff.2 (sg_ne s)
    have hcl : w2.cell? ⟨w.heap.size, (sg s).length - 1, none⟩ = some (.string (bstr ((sg s)[(sg s).length - 1]'(by omega)))) := (HR.out.cell _).trans (by rw [List.getElem?_map, List.getElem?_eq_getElem (show (sg s).length - 1 < (sg s).length by omega)]; rfl)
    have hwr : IntKind.i64.wrap (((sg s).length : Int) - 1) = (((sg s).length - 1 : Nat) : Int) := by rw [IntWalk.i64_in _ (by omega)]; omega
    have hi0 : (0 : Int) ≤ (((sg s).length - 1 : Nat) : Int) := by omega
    have hi1 : (((sg s).length - 1 : Nat) : Int) < ((sg s).length : Int) := by omega
    have p0 := HST.out.rd.cell 0
    have z0 := HST.out.rd.frozen 0
    simp only [List.getElem?_cons_zero, List.getElem?_cons_succ] at p0
    generalize (sg s)[(sg s).length - 1]'(by omega) = lw at *
    have HST2 := Lib.hid (HST.out.name_ lw)
    clear h2 HR HLE HRW
    generalize (sg s).length = n at *
    go_wp2_with fail
    go_ret
    exact LnPost.no HY.out HST2.out.ok
  | false =>
  by_cases h3 : (sg s).length = 3
  case neg =>
    have HY := Lib.hid (lf_no (pre := pre) HS.out h2 h3)
    have hb3 : (((sg s).length : Int) == 3) = false := by rw [beq_eq_false_iff_ne]; omega
    clear h2 h3 HR HLE HRW
    generalize (sg s).length = n at *
    go_wp2_with fail
    go_ret
    exact LnPost.no HY.out HST.out.ok
  obtain ⟨a, b, c, habc⟩ := three_of h3
  have htx := rows_three (by rw [← habc]; exact HRW.out)
  have HLF := Lib.hid (lf_three (pre := pre) HS.out habc htx.1 htx.2.2)
  rw [habc] at HR HLE ⊢
  have hla : a.length ≤ 400000 := by have := HLE.out a (by simp); omega
  have hlb : b.length ≤ 400000 := by have := HLE.out b (by simp); omega
  have hlc : c.length ≤ 400000 := by have := HLE.out c (by simp); omega
  have hl3 : ([a, b, c] : List (List UInt8)).length = 3 := rfl
  rw [hl3]
  have c1 : w2.cell? ⟨w.heap.size, 1, none⟩ = some (.string (bstr b)) := HR.out.cell 1
  clear h2 h3 habc htx hl3 HLE HRW hwl hb2
  go_wp2_with fail
  refine (rnumber_any b w2 (by omega)).mono ?_
  rintro e w5 ⟨rfl, hb5⟩
  have HST5 := Lib.hid (HST.out.call hb5)
  have HR5 := Lib.hid (HR.out.same (same_below hb5) HR.out.lt)
  have c0 : w5.cell? ⟨w.heap.size, 0, none⟩ = some (.string (bstr a)) := HR5.out.cell 0
  have c2 : w5.cell? ⟨w.heap.size, 2, none⟩ = some (.string (bstr c)) := HR5.out.cell 2
  have p1 := HST5.out.rd.cell 1
  simp only [List.getElem?_cons_zero, List.getElem?_cons_succ] at p1
  have hle5 : w0.heap.size + 2 ≤ w5.heap.size := HST5.out.le
  have p1a := fun (o : Obj) => (HST5.out.call ((Below.refl w5.heap.size w5).alloc (Nat.le_refl _) o)).rd.cell 1
  simp only [List.getElem?_cons_zero, List.getElem?_cons_succ] at p1a
  have HXZ : Hid (ESz ⟨c, numR b, a⟩) := Lib.hid (by
    have hr : 0 ≤ numR b ∧ numR b ≤ 1000000000 := by
      unfold numR
      split
      · rename_i hn; exact (num_val hn).2
      · exact ⟨by decide, by decide⟩
    unfold ESz maxLen
    exact ⟨by show c.length ≤ _; omega, by show a.length ≤ _; omega, WalkArith.wf_i64 (by show (-9223372036854775808 : Int) ≤ numR b ∧ numR b ≤ 9223372036854775807; omega)⟩)
  have HNR : Hid (numB b = true → numR b = numV b) := Lib.hid (fun h => if_pos h)
  clear hb5 c1 HST HR HR5
  obtain ⟨nv, hnv⟩ : ∃ nv, nv = numR b := ⟨_, rfl⟩
  rw [← hnv] at HXZ HNR ⊢
  clear hnv
  obtain ⟨nb, hnb⟩ : ∃ nb, nb = numB b := ⟨_, rfl⟩
  rw [← hnb] at HLF HNR ⊢
  clear hnb
  have p1b := p1a (.cells #[.string (bstr c), .int .i64 nv, .string (bstr a)] 36)
  go_wp2_with fail
  go_region_law (first | (refine step_app_new (w := w5) (by rfl) (.tmp 76) (.tmp 85) 22 (by rfl) 36 (.agg #[.string ⟨#[]⟩, .int .i64 0, .string ⟨#[]⟩]) 3 40 Tryz.underlying22 ent_info rfl (by decide) (m := 1) [.string (bstr c), .int .i64 nv, .string (bstr a)] 1 (by rfl) HST5.out.row hle5 (by rfl) (by rfl) (by rfl) (by decide) (by simp [Value.oneCell']) (by unfold maxLen; omega) (by omega) ?_; intro g4 c4 w4 HB4 HG4 HD4 HL4; have hbl4 := HD4.out _ (Below.refl _ w5); have hpk4 := HST5.out.rd.same (same_below hbl4) (by omega); have p4 := hpk4.cell 1; have y4 := hpk4.frozen 1; have HST7 := Lib.hid (HST5.out.push ⟨c, nv, a⟩ HXZ.out HB4.out hbl4); clear hpk4 hbl4 c0 c2 p1 p1a p1b; simp only [List.getElem?_cons_zero, List.getElem?_cons_succ] at p4) | fail)
  all_goals
    try simp only [List.getElem_toArray, List.getElem_cons_succ, List.getElem_cons_zero, Act.put, List.setIfInBounds_toArray, List.set_cons_succ, List.set_cons_zero]
    go_wp2_with fail
    go_ret
    cases nb with
    | true => exact LnPost.yes (by rw [HLF.out, if_pos rfl, ← HNR.out rfl]) HST7.out
    | false => exact LnPost.no (by rw [HLF.out, if_neg (by decide)]) HST7.out.ok
end Go.Proofs.YtgfacedfndcgdaaGreatDoor
