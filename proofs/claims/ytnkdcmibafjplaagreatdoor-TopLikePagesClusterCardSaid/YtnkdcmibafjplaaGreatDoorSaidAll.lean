/-
  The signs of package page: 'safe', 'Safe', and 'meant' at what 'safe' makes.
  'meant' of package page at what 'safe' makes.
  'tidy' of package page at any text; strings.TrimSuffix of a blank.
  'slices.Contains' of strings.
  'Said' of package page at a page of one paragraph.
-/
import Derived.Test.YtnkdcmibafjplaaGreatDoorToksAll
import Derived.Test.YtnkdcmibafjplaaGreatDoorJoinSp
import Derived.Shelf.Strings.BuilderK
import Derived.Test.YtnkdcmibafjplaaGreatDoorProg
import Derived.Test.YtnkdcmibafjplaaGreatDoorStr
namespace Go.Proofs.YtnkdcmibafjplaaGreatDoor
open Go.RowKit Go.Shelf
set_option linter.unusedVariables false
set_option linter.unusedSimpArgs false

def BD (b : Nat) (t : List UInt8) (w : World) : Prop := Lib.IsBuilderF 138 5 b b (Lib.byteCells t) w
theorem BD.new (w : World) : BD w.heap.size [] (w.alloc (.cells #[.pointer none, .slice none 0 0] 138)) := Lib.IsBuilderF.of (Lib.fresh_isBuilder 138 5 w)
theorem ownF_blw {w w' : World} {B : Nat} {e : TypeId} {size n : Nat} {v : Value} {xs : List Value} (h : w.ownsRowF B e size v n xs) (hb : Below w.heap.size w w') : w'.ownsRowF B e size v n xs :=
  ⟨h.1, h.2.imp id (fun ⟨g, cap, cur, fz, hv, hB, hh, rest⟩ => ⟨g, cap, cur, fz, hv, hB, (hb.block g (Array.getElem?_eq_some_iff.1 hh).1).trans hh, rest⟩)⟩
theorem BD.ext {b : Nat} {t : List UInt8} {w w' : World} (h : BD b t w) (hb : Below w.heap.size w w') : BD b t w' := by
  have key : ∀ p, Lib.BuilderAtF 138 5 b b p (Lib.byteCells t) w → Lib.BuilderAtF 138 5 b b p (Lib.byteCells t) w' := fun p ⟨h0, v, h1, h2, h3⟩ =>
    ⟨h0, v, (hb.block b (Array.getElem?_eq_some_iff.1 h1).1).trans h1, ownF_blw h2 hb, h3⟩
  rcases h with h | h
  · exact .inl (key _ h)
  · exact .inr (key _ h)
theorem BD.lt {b : Nat} {t : List UInt8} {w : World} (h : BD b t w) : b < w.heap.size := by
  rcases h with ⟨_, v, h1, _⟩ | ⟨_, v, h1, _⟩ <;> exact (Array.getElem?_eq_some_iff.1 h1).1
theorem kept_blk {w w' : World} {b g : Nat} {t : TypeId} {cs : List Value} (h : Lib.OthersKept 5 (some b) w w') (hk : Blk w g t cs) (hne : g ≠ b) (ht : t ≠ 5) : Blk w' g t cs :=
  h g _ hk (fun e => hne (by injection e)) (fun c fz e => ht (by injection e))
set_option maxRecDepth 100000 in
theorem write_any (b : Nat) (t s : List UInt8) (w : World) (h : BD b t w) (hl : t.length + s.length ≤ 1000000) :
    Calls Tryz.prog 58 #[.pointer (some ⟨b, 0, none⟩), .string (bstr s)] w fun e w' => e = .returned (.tuple #[.int .i64 (s.length : Int), .nilIface]) ∧ BD b (t ++ s) w' ∧ Below b w w' ∧ Lib.OthersKept 5 (some b) w w' := by
  refine (Any.Builder_WriteString_k { joinLays with } joinExtra b b (Lib.byteCells t) (bstr s) w h (by rw [Lib.byteCells_length, bstr_size]; omega) (Nat.le_of_lt h.lt)).mono ?_
  rintro e w' ⟨rfl, h1, h2, h3⟩
  refine ⟨rfl, .inr ?_, h2, h3⟩
  have e : Lib.byteCells (t ++ s) = Lib.byteCells t ++ Lib.strCells (bstr s) := by
    unfold Lib.byteCells Lib.strCells
    rw [List.map_append]
    rfl
  rw [e]
  exact h1
set_option maxRecDepth 100000 in
theorem bstring_any (b : Nat) (t : List UInt8) (w : World) (h : BD b t w) :
    Calls Tryz.prog 59 #[.pointer (some ⟨b, 0, none⟩)] w fun e w' => e = .returned (.string (bstr t)) ∧ Below b w w' := by
  cases t with
  | nil =>
    refine (Any.Builder_String_empty_k { joinLays with } joinExtra b b w h (Nat.le_of_lt h.lt)).mono ?_
    rintro e w' ⟨rfl, _, hb, _⟩
    exact ⟨rfl, hb⟩
  | cons c r =>
    refine (Any.Builder_String_k { joinLays with } joinExtra b b (c :: r) w h (by simp)).mono ?_
    rintro e w' ⟨rfl, _, hb, _⟩
    exact ⟨rfl, hb⟩

/-- Sign k: what stands for a byte, and this. -/
def sgS (k : Nat) : List UInt8 := if k = 0 then [38, 97, 109, 112, 59] else if k = 1 then [38, 108, 116, 59] else if k = 2 then [38, 103, 116, 59] else if k = 3 then [38, 113, 117, 111, 116, 59] else [38, 35, 51, 57, 59]
def sgB (k : Nat) : UInt8 := if k = 0 then 38 else if k = 1 then 60 else if k = 2 then 62 else if k = 3 then 34 else 39
def SGC : List Value := [.string (bstr [38, 97, 109, 112, 59]), .string (bstr [38]), .string (bstr [38, 108, 116, 59]), .string (bstr [60]), .string (bstr [38, 103, 116, 59]), .string (bstr [62]), .string (bstr [38, 113, 117, 111, 116, 59]), .string (bstr [34]), .string (bstr [38, 35, 51, 57, 59]), .string (bstr [39])]
theorem sg_cell {w : World} {gb : Nat} {sa : Addr} (h : Blk w gb 141 SGC) (hs : sa = ⟨gb, 0, none⟩) {k : Nat} (hk : k < 5) : w.cell? (sa.add (k * 2)) = some (.string (bstr (sgS k))) ∧ w.cell? ⟨(sa.add (k * 2)).block, (sa.add (k * 2)).off + 1, none⟩ = some (.string (bstr [sgB k])) := by
  subst hs
  have hadd : (⟨gb, 0, none⟩ : Addr).add (k * 2) = ⟨gb, k * 2, none⟩ := by unfold Addr.add; split <;> simp_all
  rw [hadd, h.cell, h.cell]
  have : k = 0 ∨ k = 1 ∨ k = 2 ∨ k = 3 ∨ k = 4 := by omega
  rcases this with rfl | rfl | rfl | rfl | rfl <;> exact ⟨rfl, rfl⟩
theorem safe_hit {c : UInt8} {k : Nat} (hk : k < 5) (h : sgB k = c) : safeC c = sgS k := by
  subst h
  have : k = 0 ∨ k = 1 ∨ k = 2 ∨ k = 3 ∨ k = 4 := by omega
  rcases this with rfl | rfl | rfl | rfl | rfl <;> rfl
theorem safe_miss {c : UInt8} (h : ∀ k, k < 5 → sgB k ≠ c) : safeC c = [c] := by
  have h0 := h 0 (by decide); have h1 := h 1 (by decide); have h2 := h 2 (by decide); have h3 := h 3 (by decide); have h4 := h 4 (by decide)
  unfold safeC
  rw [if_neg (fun e => h0 e.symm), if_neg (fun e => h1 e.symm), if_neg (fun e => h2 e.symm), if_neg (fun e => h3 e.symm), if_neg (fun e => h4 e.symm)]
theorem sgS_len (k : Nat) : (sgS k).length ≤ 6 ∧ 4 ≤ (sgS k).length := by
  unfold sgS
  repeat' split
  all_goals decide
set_option maxRecDepth 100000 in
set_option maxHeartbeats 1000000 in
theorem signs_any (w : World) : Calls Tryz.prog 57 #[] w fun e w' => e = .returned (.slice (some ⟨w.heap.size, 0, none⟩) 5 5) ∧ Blk w' w.heap.size 141 SGC ∧ Below w.heap.size w w' := by
  have HB := Lib.hid ((Below.refl w.heap.size w).alloc (Nat.le_refl _) (.cells #[.string ⟨#[38, 97, 109, 112, 59]⟩, .string ⟨#[38]⟩, .string ⟨#[38, 108, 116, 59]⟩, .string ⟨#[60]⟩, .string ⟨#[38, 103, 116, 59]⟩, .string ⟨#[62]⟩, .string ⟨#[38, 113, 117, 111, 116, 59]⟩, .string ⟨#[34]⟩, .string ⟨#[38, 35, 51, 57, 59]⟩, .string ⟨#[39]⟩] 141))
  have HK : Hid (Blk (w.alloc (.cells #[.string ⟨#[38, 97, 109, 112, 59]⟩, .string ⟨#[38]⟩, .string ⟨#[38, 108, 116, 59]⟩, .string ⟨#[60]⟩, .string ⟨#[38, 103, 116, 59]⟩, .string ⟨#[62]⟩, .string ⟨#[38, 113, 117, 111, 116, 59]⟩, .string ⟨#[34]⟩, .string ⟨#[38, 35, 51, 57, 59]⟩, .string ⟨#[39]⟩] 141)) w.heap.size 141 SGC) := Lib.hid (Blk.new w _ _)
  go_enter Tryz.func57, Tryz.ntmps57
  go_wp2_with fail
  go_ret
  exact ⟨rfl, HK.out, HB.out⟩
theorem BD.ext' {b : Nat} {t : List UInt8} {w w' : World} (h : BD b t w) (hb : Below w.heap.size w w') : BD b t w' := h.ext hb
set_option maxRecDepth 100000 in
set_option maxHeartbeats 4000000 in
theorem safe_any (t : List UInt8) (w : World) (ht : t.length ≤ 20000) : Calls Tryz.prog 21 #[.string (bstr t)] w fun e w' => e = .returned (.string (bstr (safeL t))) ∧ Below w.heap.size w w' := by
  have HA : Hid (Below w.heap.size w (w.alloc (.cells #[.pointer none, .slice none 0 0] 138))) := Lib.hid ((Below.refl _ _).alloc (Nat.le_refl _) _)
  have HD := Lib.hid (BD.new w)
  go_enter Tryz.func21, Tryz.ntmps21
  go_wp2_with fail
  generalize w.alloc (.cells #[.pointer none, .slice none 0 0] 138) = w1 at *
  obtain ⟨bb, hbb⟩ : ∃ bb, w.heap.size = bb := ⟨_, rfl⟩
  rw [hbb] at HD HA ⊢
  have HBB := Lib.hid hbb
  clear hbb
  go_loopw [10] (fun vi wr => ∃ i : Nat, i ≤ t.length ∧ vi = .int .i64 i ∧ Hid (BD bb (safeL (t.take i)) wr) ∧ Hid (Below bb w wr)) (fun vi _ => t.length - (intOf vi).toNat)
  case atStart => exact ⟨0, by omega, rfl, HD, HA⟩
  case round =>
    clear HD HA
    obtain ⟨i, hi, rfl, HD, HA⟩ := hrel
    by_cases hlt : i < t.length
    · have h1 : (i : Int) < ((bstr t).size : Int) := by rw [bstr_size]; omega
      have hs2 : i ≤ (bstr t).size := by rw [bstr_size]; omega
      have hs1 : (i : Int) + 1 ≤ ((bstr t).size : Int) := by rw [bstr_size]; omega
      have hs3 : i + 1 ≤ (bstr t).size := by rw [bstr_size]; omega
      have hw1 : IntKind.i64.wrap ((i : Int) + 1) = (i : Int) + 1 := IntWalk.i64_in _ (by omega)
      have hn1 : ((i : Int) + 1).toNat = i + 1 := by omega
      have ex : (bstr t).extract i (i + 1) = bstr [t[i]] := by
        rw [extract_bstr]
        congr 1
        rw [List.drop_eq_getElem_cons hlt, show i + 1 - i = 1 by omega]
        rfl
      have HSL := Lib.hid (safeL_snoc hlt)
      have hlen : (safeL (t.take i)).length ≤ 120000 := by
        have := (safeL_len (t.take i)).2
        rw [List.length_take] at this
        omega
      generalize t[i] = c at *
      go_wp2_with fail
      clear ex hs1 hs2 hs3 hn1 h1
      refine (signs_any wr).mono ?_
      rintro e w3 ⟨rfl, hsg, hb3⟩
      have HSG := Lib.hid hsg
      have HD3 := Lib.hid (HD.out.ext hb3)
      have HA3 := Lib.hid (HA.out.trans (hb3.mono (Nat.le_of_lt HD.out.lt)))
      obtain ⟨gb, hgb⟩ : ∃ gb, wr.heap.size = gb := ⟨_, rfl⟩
      rw [hgb] at HSG ⊢
      obtain ⟨sa, hsa⟩ : ∃ sa : Addr, sa = ⟨gb, 0, none⟩ := ⟨_, rfl⟩
      rw [← hsa]
      have HSA := Lib.hid hsa
      clear hsg hb3 hgb hsa HD HA
      generalize hSS : safeL (t.take i) = S at *
      have HSS := Lib.hid hSS
      clear hSS
      go_wp2_with fail
      go_loopw [5, 20] (fun vx vk w4 => ∃ k : Nat, k ≤ 5 ∧ vx = .string (bstr [c]) ∧ vk = .int .i64 k ∧ Hid (∀ j, j < k → sgB j ≠ c) ∧ Hid (BD bb S w4) ∧ Hid (Below bb w w4) ∧ Hid (Blk w4 gb 141 SGC)) (fun _ vk _ => 5 - (intOf vk).toNat)
      case atStart => exact ⟨0, by omega, rfl, rfl, Lib.hid (fun j hj => by omega), HD3, HA3, HSG⟩
      case round =>
        clear HD3 HA3 HSG
        obtain ⟨k, hk, rfl, rfl, HN, HD4, HA4, HSG⟩ := hrel
        by_cases hk5 : k < 5
        · have hk5' : (k : Int) < 5 := by omega
          obtain ⟨c0, c1⟩ := sg_cell HSG.out HSA.out hk5
          have hal := (Below.refl wr.heap.size wr).alloc (Nat.le_refl _) (.cells #[.string (bstr (sgS k)), .string (bstr [sgB k])] 141)
          have hxb := Blk.new wr 141 [.string (bstr (sgS k)), .string (bstr [sgB k])]
          have x0 : (wr.alloc (.cells #[.string (bstr (sgS k)), .string (bstr [sgB k])] 141)).cell? ⟨wr.heap.size, 0, none⟩ = some (.string (bstr (sgS k))) := hxb.cell 0
          have x1 : (wr.alloc (.cells #[.string (bstr (sgS k)), .string (bstr [sgB k])] 141)).cell? ⟨wr.heap.size, 1, none⟩ = some (.string (bstr [sgB k])) := hxb.cell 1
          have HD5 := Lib.hid (HD4.out.ext hal)
          have HA5 := Lib.hid (HA4.out.trans (hal.mono (Nat.le_of_lt HD4.out.lt)))
          have HSG5 := Lib.hid (HSG.out.same (same_below hal) HSG.out.lt)
          clear hxb hal HD4 HA4 HSG
          by_cases hq : sgB k = c
          · have b1 : ((bstr [sgB k]).toList == (bstr [c]).toList) = true := str_beq (by rw [hq])
            have HX := Lib.hid (safe_hit hk5 hq)
            have hsl := (sgS_len k).1
            clear hq
            go_wp2_with fail
            clear c0 c1 x0 x1 b1
            generalize wr.alloc (.cells #[.string (bstr (sgS k)), .string (bstr [sgB k])] 141) = w5 at *
            refine (write_any bb S (sgS k) w5 HD5.out (by omega)).mono ?_
            rintro e w6 ⟨rfl, hd6, hb6, _⟩
            rw [← HX.out, ← HSL.out] at hd6
            have HD6 := Lib.hid hd6
            have HA6 := Lib.hid (HA5.out.trans hb6)
            clear hd6 hb6
            go_wp2_with fail
            go_roundw
            case rel => first | exact ⟨i + 1, by omega, by go_num, HD6, HA6⟩ | (repeat (apply Exists.intro); (refine And.intro ?_ ?_; rotate_left; (repeat' (first | exact rfl | apply And.intro)); exact ⟨i + 1, by omega, by go_num, HD6, HA6⟩))
            case measure => simp [intOf]; omega
          · have b1 : ((bstr [sgB k]).toList == (bstr [c]).toList) = false := str_bne (fun e => hq (by have := bstr_inj e; injection this))
            have HN2 : Hid (∀ j, j < k + 1 → sgB j ≠ c) := Lib.hid (fun j hj => by
              rcases Nat.lt_or_ge j k with h | h
              · exact HN.out j h
              · obtain rfl : j = k := by omega
                exact hq)
            clear hq
            go_wp2_with fail
            go_roundw
            case rel => first | exact ⟨k + 1, by omega, rfl, by go_num, HN2, HD5, HA5, HSG5⟩ | (repeat (apply Exists.intro); (refine And.intro ?_ ?_; rotate_left; (repeat' (first | exact rfl | apply And.intro)); exact ⟨k + 1, by omega, rfl, by go_num, HN2, HD5, HA5, HSG5⟩))
            case measure => simp [intOf]; omega
        · obtain rfl : k = 5 := by omega
          have HX := Lib.hid (safe_miss HN.out)
          go_wp2_with fail
          refine (write_any bb S [c] wr HD4.out (by simp; omega)).mono ?_
          rintro e w6 ⟨rfl, hd6, hb6, _⟩
          rw [← HX.out, ← HSL.out] at hd6
          have HD6 := Lib.hid hd6
          have HA6 := Lib.hid (HA4.out.trans hb6)
          clear hd6 hb6
          go_wp2_with fail
          go_roundw
          case rel => first | exact ⟨i + 1, by omega, by go_num, HD6, HA6⟩ | (repeat (apply Exists.intro); (refine And.intro ?_ ?_; rotate_left; (repeat' (first | exact rfl | apply And.intro)); exact ⟨i + 1, by omega, by go_num, HD6, HA6⟩))
          case measure => simp [intOf]; omega
    · obtain rfl : i = t.length := by omega
      have h1 : ¬ (t.length : Int) < ((bstr t).size : Int) := by rw [bstr_size]; omega
      have h2 : ¬ t.length < (bstr t).size := by rw [bstr_size]; omega
      rw [List.take_length] at HD
      go_wp2_with fail
      refine (bstring_any bb (safeL t) wr HD.out).mono ?_
      rintro e w6 ⟨rfl, hb6⟩
      have HA6 := Lib.hid (HA.out.trans hb6)
      clear hb6
      go_wp2_with fail
      go_ret
      exact ⟨rfl, by rw [HBB.out]; exact HA6.out⟩
end Go.Proofs.YtnkdcmibafjplaaGreatDoor
namespace Go.Proofs.YtnkdcmibafjplaaGreatDoor
open Go.RowKit Go.Shelf
set_option linter.unusedVariables false
set_option linter.unusedSimpArgs false

def wbLays_ren : Go.Shelf.Ren := ⟨fun | 167 => 62 | 240 => 95 | 276 => 148 | n => n, fun | 0 => 0 | 4 => 4 | 5 => 5 | 9 => 9 | 20 => 20 | 37 => 33 | 70 => 136 | 72 => 138 | 75 => 143 | 80 => 146 | 164 => 215 | n => n, fun | n => n⟩
theorem wbLays : Lays.n167 Tryz.prog wbLays_ren := {
  mixed := by kernel_rfl,
  f167 := Tryz.func62.trans (congrArg some (by kernel_rfl)),
  f240 := Tryz.func95.trans (congrArg some (by kernel_rfl)),
  f276 := Tryz.func148.trans (congrArg some (by kernel_rfl)),
  t0 := Tryz.underlying0,
  a0 := Tryz.isAgg0,
  z0 := Tryz.sizeOf0,
  v0 := Tryz.zeroValue0,
  t4 := Tryz.underlying4,
  a4 := Tryz.isAgg4,
  z4 := Tryz.sizeOf4,
  v4 := Tryz.zeroValue4,
  t5 := Tryz.underlying5,
  a5 := Tryz.isAgg5,
  z5 := Tryz.sizeOf5,
  v5 := Tryz.zeroValue5,
  t9 := Tryz.underlying9,
  a9 := Tryz.isAgg9,
  z9 := Tryz.sizeOf9,
  v9 := Tryz.zeroValue9,
  t20 := Tryz.underlying20,
  a20 := Tryz.isAgg20,
  z20 := Tryz.sizeOf20,
  v20 := Tryz.zeroValue20,
  t37 := Tryz.underlying33,
  a37 := Tryz.isAgg33,
  z37 := Tryz.sizeOf33,
  v37 := Tryz.zeroValue33,
  t70 := Tryz.underlying136,
  a70 := Tryz.isAgg136,
  z70 := Tryz.sizeOf136,
  v70 := Tryz.zeroValue136,
  t72 := Tryz.underlying138,
  a72 := Tryz.isAgg138,
  z72 := Tryz.sizeOf138,
  v72 := Tryz.zeroValue138,
  t75 := Tryz.underlying143,
  a75 := Tryz.isAgg143,
  z75 := Tryz.sizeOf143,
  v75 := Tryz.zeroValue143,
  t164 := Tryz.underlying215,
  a164 := Tryz.isAgg215,
  z164 := Tryz.sizeOf215,
  v164 := Tryz.zeroValue215 }
theorem wbExtra : Builder.Extra Tryz.prog wbLays_ren := {
  sizeBuilder := by kernel_rfl,
  liesBuilder := by kernel_rfl,
  t5 := Tryz.underlying5,
  a5 := Tryz.isAgg5,
  z5 := Tryz.sizeOf5,
  v5 := Tryz.zeroValue5,
  infoByte := by kernel_rfl,
  cellsByte := by kernel_rfl,
  sizeByte := by kernel_rfl,
  neB5 := by decide }


set_option maxRecDepth 100000 in
theorem writeB_any (b : Nat) (t : List UInt8) (c : UInt8) (w : World) (h : BD b t w) (hl : t.length ≤ 1000000) :
    Calls Tryz.prog 62 #[.pointer (some ⟨b, 0, none⟩), .int .u8 c.toNat] w fun e w' => e = .returned .nilIface ∧ BD b (t ++ [c]) w' ∧ Below b w w' := by
  refine (Any.Builder_WriteByte_k wbLays wbExtra b b (Lib.byteCells t) (c.toNat : Int) w h (by rw [Lib.byteCells_length]; omega) (Nat.le_of_lt h.lt)).mono ?_
  rintro e w' ⟨rfl, h1, h2, _⟩
  refine ⟨rfl, .inr ?_, h2⟩
  have e : Lib.byteCells (t ++ [c]) = Lib.byteCells t ++ [.int .u8 (c.toNat : Int)] := by
    unfold Lib.byteCells
    rw [List.map_append]
    rfl
  rw [e]
  exact h1
theorem sgB_inj {j k : Nat} (hj : j < 5) (hk : k < 5) (h : sgB j = sgB k) : j = k := by
  have h1 : j = 0 ∨ j = 1 ∨ j = 2 ∨ j = 3 ∨ j = 4 := by omega
  have h2 : k = 0 ∨ k = 1 ∨ k = 2 ∨ k = 3 ∨ k = 4 := by omega
  rcases h1 with rfl | rfl | rfl | rfl | rfl <;> rcases h2 with rfl | rfl | rfl | rfl | rfl <;> first | rfl | (exact absurd h (by decide))
theorem sgS_head (k : Nat) : ∃ r, sgS k = 38 :: r ∧ 0 < r.length := by
  unfold sgS
  repeat' split
  all_goals exact ⟨_, rfl, by decide⟩
theorem pre_no {x y : List UInt8} {r : List UInt8} {i : Nat} (hx : i < x.length) (hy : i < y.length) (h : x[i] ≠ y[i]) : preB x (y ++ r) = false := by
  refine decide_eq_false fun e => h ?_
  have h1 : ((y ++ r).take x.length)[i]? = some y[i] := by
    rw [List.getElem?_take, if_pos hx, List.getElem?_append_left hy, List.getElem?_eq_getElem hy]
  rw [e, List.getElem?_eq_getElem hx] at h1
  exact Option.some.inj h1
theorem pre_yes (x r : List UInt8) : preB x (x ++ r) = true := by
  refine decide_eq_true ?_
  rw [List.take_append_of_le_length (Nat.le_refl _), List.take_length]
theorem pre_sign {c : UInt8} {k : Nat} {r : List UInt8} (hk : k < 5) : preB (sgS k) (safeC c ++ r) = decide (sgB k = c) := by
  by_cases hc : ∃ j, j < 5 ∧ sgB j = c
  · obtain ⟨j, hj, rfl⟩ := hc
    rw [safe_hit hj rfl]
    by_cases hjk : k = j
    · subst hjk
      rw [pre_yes, decide_eq_true rfl]
    · rw [decide_eq_false (fun e => hjk (sgB_inj hk hj e))]
      refine pre_no (i := 1) (by have := (sgS_len k).2; omega) (by have := (sgS_len j).2; omega) ?_
      have h1 : j = 0 ∨ j = 1 ∨ j = 2 ∨ j = 3 ∨ j = 4 := by omega
      have h2 : k = 0 ∨ k = 1 ∨ k = 2 ∨ k = 3 ∨ k = 4 := by omega
      rcases h1 with rfl | rfl | rfl | rfl | rfl <;> rcases h2 with rfl | rfl | rfl | rfl | rfl <;> first | (exact absurd rfl hjk) | decide
  · have hn : ∀ j, j < 5 → sgB j ≠ c := fun j hj e => hc ⟨j, hj, e⟩
    rw [safe_miss hn, decide_eq_false (hn k hk)]
    refine pre_no (i := 0) (by have := (sgS_len k).2; omega) (by simp) ?_
    obtain ⟨q, hq, _⟩ := sgS_head k
    simp only [hq, List.getElem_cons_zero]
    exact hn 0 (by decide)
theorem safeC_ne (c : UInt8) : safeC c ≠ [] := fun e => by have := (safeC_len c).1; rw [e] at this; exact absurd this (by decide)
/-- What the loop over the signs keeps. -/
def MSt (c : UInt8) (P : List UInt8) (k n : Nat) (S : List UInt8) : Prop := ((∀ j, j < k → sgB j ≠ c) ∧ n = 1 ∧ S = P) ∨ ((∃ j, j < k ∧ sgB j = c) ∧ n = (safeC c).length ∧ S = P ++ [c])
set_option maxRecDepth 100000 in
set_option maxHeartbeats 8000000 in
theorem meant_any (t : List UInt8) (w : World) (ht : t.length ≤ 20000) : Calls Tryz.prog 24 #[.string (bstr (safeL t))] w fun e w' => e = .returned (.string (bstr t)) ∧ Below w.heap.size w w' := by
  have HA : Hid (Below w.heap.size w (w.alloc (.cells #[.pointer none, .slice none 0 0] 138))) := Lib.hid ((Below.refl _ _).alloc (Nat.le_refl _) _)
  have HD := Lib.hid (BD.new w)
  go_enter Tryz.func24, Tryz.ntmps24
  go_wp2_with fail
  generalize w.alloc (.cells #[.pointer none, .slice none 0 0] 138) = w1 at *
  obtain ⟨bb, hbb⟩ : ∃ bb, w.heap.size = bb := ⟨_, rfl⟩
  rw [hbb] at HD HA ⊢
  have HBB := Lib.hid hbb
  clear hbb
  go_loopw [0] (fun vs wr => ∃ i : Nat, i ≤ t.length ∧ vs = .string (bstr (safeL (t.drop i))) ∧ Hid (BD bb (t.take i) wr) ∧ Hid (Below bb w wr)) (fun vs _ => strSize vs)
  case atStart => exact ⟨0, by omega, rfl, HD, HA⟩
  case round =>
    clear HD HA
    obtain ⟨i, hi, rfl, HD, HA⟩ := hrel
    by_cases hlt : i < t.length
    · have hsd := safeL_drop hlt
      have htk : t.take (i + 1) = t.take i ++ [t[i]] := List.take_succ_eq_append_getElem hlt
      have HTK := Lib.hid htk
      have hpl : (t.take i).length ≤ 20000 := by rw [List.length_take]; omega
      have hrl : (safeL (t.drop (i + 1))).length ≤ 120000 := by
        have := (safeL_len (t.drop (i + 1))).2
        rw [List.length_drop] at this
        omega
      have hsl := safeC_len t[i]
      have hne := safeC_ne t[i]
      generalize hR : safeL (t.drop (i + 1)) = R at *
      have HR := Lib.hid hR
      generalize hS : safeL (t.drop i) = s at *
      generalize t.take i = P at *
      generalize t[i] = c at *
      have HSD := Lib.hid hsd
      have hsz : (bstr s).size = (safeC c).length + R.length := by rw [bstr_size, hsd, List.length_append]
      have HSZ := Lib.hid hsz
      have b0 : (bstr s).toList.isEmpty = false := bstr_some (by rw [hsd]; simp [hne])
      clear hR hS hsd htk hsz
      go_wp2_with fail
      clear b0
      refine (signs_any wr).mono ?_
      rintro e w3 ⟨rfl, hsg, hb3⟩
      have HSG := Lib.hid hsg
      have HD3 := Lib.hid (HD.out.ext hb3)
      have HA3 := Lib.hid (HA.out.trans (hb3.mono (Nat.le_of_lt HD.out.lt)))
      obtain ⟨gb, hgb⟩ : ∃ gb, wr.heap.size = gb := ⟨_, rfl⟩
      have HGB : Hid (gb ≠ bb) := Lib.hid (by rw [← hgb]; exact Nat.ne_of_gt HD.out.lt)
      rw [hgb] at HSG ⊢
      obtain ⟨sa, hsa⟩ : ∃ sa : Addr, sa = ⟨gb, 0, none⟩ := ⟨_, rfl⟩
      rw [← hsa]
      have HSA := Lib.hid hsa
      clear hsg hb3 hgb hsa HD HA
      go_wp2_with fail
      go_loopw [4, 11] (fun vn vk w4 => ∃ (k n : Nat) (S : List UInt8), k ≤ 5 ∧ vn = .int .i64 n ∧ vk = .int .i64 k ∧ Hid (MSt c P k n S) ∧ Hid (BD bb S w4) ∧ Hid (Below bb w w4) ∧ Hid (Blk w4 gb 141 SGC)) (fun _ vk _ => 5 - (intOf vk).toNat)
      case atStart => exact ⟨0, 1, P, by omega, rfl, rfl, Lib.hid (.inl ⟨fun j hj => by omega, rfl, rfl⟩), HD3, HA3, HSG⟩
      case round =>
        clear HD3 HA3 HSG
        obtain ⟨k, n, S, hk, rfl, rfl, HM, HD4, HA4, HSG⟩ := hrel
        have hSl : S.length ≤ 20001 := by
          rcases HM.out with ⟨_, _, h⟩ | ⟨_, _, h⟩
          · rw [h]; omega
          · rw [h, List.length_append, List.length_singleton]; omega
        by_cases hk5 : k < 5
        · have hk5' : (k : Int) < 5 := by omega
          obtain ⟨c0, c1⟩ := sg_cell HSG.out HSA.out hk5
          have hal := (Below.refl wr.heap.size wr).alloc (Nat.le_refl _) (.cells #[.string (bstr (sgS k)), .string (bstr [sgB k])] 141)
          have hxb := Blk.new wr 141 [.string (bstr (sgS k)), .string (bstr [sgB k])]
          have HXB : Hid (Blk (wr.alloc (.cells #[.string (bstr (sgS k)), .string (bstr [sgB k])] 141)) wr.heap.size 141 [.string (bstr (sgS k)), .string (bstr [sgB k])]) := Lib.hid hxb
          have HXN : Hid (wr.heap.size ≠ bb) := Lib.hid (Nat.ne_of_gt HD4.out.lt)
          have x0 : (wr.alloc (.cells #[.string (bstr (sgS k)), .string (bstr [sgB k])] 141)).cell? ⟨wr.heap.size, 0, none⟩ = some (.string (bstr (sgS k))) := hxb.cell 0
          have x1 : (wr.alloc (.cells #[.string (bstr (sgS k)), .string (bstr [sgB k])] 141)).cell? ⟨wr.heap.size, 1, none⟩ = some (.string (bstr [sgB k])) := hxb.cell 1
          have HD5 := Lib.hid (HD4.out.ext hal)
          have HA5 := Lib.hid (HA4.out.trans (hal.mono (Nat.le_of_lt HD4.out.lt)))
          have HSG5 := Lib.hid (HSG.out.same (same_below hal) HSG.out.lt)
          clear hxb hal HD4 HA4 HSG
          go_wp2_with fail
          clear c0 c1
          generalize wr.alloc (.cells #[.string (bstr (sgS k)), .string (bstr [sgB k])] 141) = w5 at *
          generalize wr.heap.size = xb at *
          refine (hasPre_any s (sgS k) w5 (by have := HSZ.out; rw [bstr_size] at this; omega) (by have := (sgS_len k).1; omega)).mono ?_
          rintro e w6 ⟨rfl, rfl⟩
          rw [show preB (sgS k) s = decide (sgB k = c) by rw [HSD.out]; exact pre_sign hk5]
          by_cases hq : sgB k = c
          · rw [decide_eq_true hq]
            have HX := Lib.hid (safe_hit hk5 hq)
            have HMM : Hid (n = 1 ∧ S = P) := Lib.hid (by
              rcases HM.out with ⟨_, h1, h2⟩ | ⟨⟨j, hj, he⟩, _⟩
              · exact ⟨h1, h2⟩
              · exact absurd (sgB_inj (by omega) hk5 (he.trans hq.symm)) (by omega))
            have HQ := Lib.hid hq
            clear hq
            go_wp2_with fail
            clear x0 x1
            refine (write_any bb S [sgB k] w6 HD5.out (by simp; omega)).mono ?_
            rintro e w7 ⟨rfl, hd7, hb7, hk7⟩
            have HD7 := Lib.hid hd7
            have HA7 := Lib.hid (HA5.out.trans hb7)
            have HSG7 := Lib.hid (kept_blk hk7 HSG5.out HGB.out (by decide))
            have HX7 := Lib.hid (kept_blk hk7 HXB.out HXN.out (by decide))
            have x0 : w7.cell? ⟨xb, 0, none⟩ = some (.string (bstr (sgS k))) := HX7.out.cell 0
            clear hd7 hb7 hk7
            go_wp2_with fail
            go_roundw
            case rel => first | exact ⟨k + 1, (bstr (sgS k)).size, S ++ [sgB k], by omega, rfl, by go_num, Lib.hid (.inr ⟨⟨k, by omega, HQ.out⟩, by rw [HX.out, bstr_size], by rw [HMM.out.2, HQ.out]⟩), HD7, HA7, HSG7⟩ | (repeat (apply Exists.intro); (refine And.intro ?_ ?_; rotate_left; (repeat' (first | exact rfl | apply And.intro)); exact ⟨k + 1, (bstr (sgS k)).size, S ++ [sgB k], by omega, rfl, by go_num, Lib.hid (.inr ⟨⟨k, by omega, HQ.out⟩, by rw [HX.out, bstr_size], by rw [HMM.out.2, HQ.out]⟩), HD7, HA7, HSG7⟩))
            case measure => simp [intOf]; omega
          · rw [decide_eq_false hq]
            have HM2 : Hid (MSt c P (k + 1) n S) := Lib.hid (by
              rcases HM.out with ⟨h0, h1, h2⟩ | ⟨⟨j, hj, he⟩, h1, h2⟩
              · refine .inl ⟨fun j hj => ?_, h1, h2⟩
                rcases Nat.lt_or_ge j k with h | h
                · exact h0 j h
                · obtain rfl : j = k := by omega
                  exact hq
              · exact .inr ⟨⟨j, by omega, he⟩, h1, h2⟩)
            clear hq
            go_wp2_with fail
            go_roundw
            case rel => first | exact ⟨k + 1, n, S, by omega, rfl, by go_num, HM2, HD5, HA5, HSG5⟩ | (repeat (apply Exists.intro); (refine And.intro ?_ ?_; rotate_left; (repeat' (first | exact rfl | apply And.intro)); exact ⟨k + 1, n, S, by omega, rfl, by go_num, HM2, HD5, HA5, HSG5⟩))
            case measure => simp [intOf]; omega
        · obtain rfl : k = 5 := by omega
          have hn2 : n ≤ (bstr s).size := by
            rw [HSZ.out]
            rcases HM.out with ⟨_, h, _⟩ | ⟨_, h, _⟩ <;> omega
          have hn3 : (n : Int) ≤ ((bstr s).size : Int) := by omega
          have hex : (bstr s).extract n (bstr s).size = bstr R := by
            have h1 : s.drop n = R := by
              rw [HSD.out]
              have h2 : n = (safeC c).length := by
                rcases HM.out with ⟨h0, h, _⟩ | ⟨_, h, _⟩
                · rw [h, safe_miss h0]; rfl
                · exact h
              rw [h2, List.drop_append_of_le_length (Nat.le_refl _), List.drop_length, List.nil_append]
            rw [← h1]
            exact extract_tail s n
          have HNX := Lib.hid (show strSize (.string (bstr R)) < strSize (.string (bstr s)) by show (bstr R).size < (bstr s).size; rw [HSZ.out, bstr_size]; omega)
          by_cases hn1 : n = 1
          · have HMM : Hid ((∀ j, j < 5 → sgB j ≠ c) ∧ S = P) := Lib.hid (by
              rcases HM.out with ⟨h0, _, h2⟩ | ⟨⟨j, hj, he⟩, h1, _⟩
              · exact ⟨h0, h2⟩
              · rw [safe_hit hj he] at h1
                have := (sgS_len j).2
                omega)
            subst hn1
            have hs0 : 0 < (bstr s).size := by omega
            have hs0' : (0 : Int) < ((bstr s).size : Int) := by omega
            have hc0 : ((bstr s)[0]'hs0).toNat = c.toNat := by
              have h1 : s = c :: R := by rw [HSD.out, safe_miss HMM.out.1]; rfl
              have h2 : ∀ (h : 0 < s.length), (s[0]'h).toNat = c.toNat := by rw [h1]; intro _; rfl
              exact h2 hs0
            go_wp2_with fail
            refine (writeB_any bb S c wr HD4.out (by omega)).mono ?_
            rintro e w7 ⟨rfl, hd7, hb7⟩
            rw [HMM.out.2, ← HTK.out] at hd7
            have HD7 := Lib.hid hd7
            have HA7 := Lib.hid (HA4.out.trans hb7)
            clear hd7 hb7
            go_wp2_with fail
            go_roundw
            case rel => first | exact ⟨i + 1, by omega, by rw [HR.out], HD7, HA7⟩ | (repeat (apply Exists.intro); (refine And.intro ?_ ?_; rotate_left; (repeat' (first | exact rfl | apply And.intro)); exact ⟨i + 1, by omega, by rw [HR.out], HD7, HA7⟩))
            case measure => exact HNX.out
          · have HMM : Hid (S = P ++ [c]) := Lib.hid (by
              rcases HM.out with ⟨_, h, _⟩ | ⟨_, _, h⟩
              · exact absurd h hn1
              · exact h)
            rw [HMM.out, ← HTK.out] at HD4
            have hnn : ((n : Int) == 1) = false := by rw [beq_eq_false_iff_ne]; omega
            go_wp2_with fail
            go_roundw
            case rel => first | exact ⟨i + 1, by omega, by rw [HR.out], HD4, HA4⟩ | (repeat (apply Exists.intro); (refine And.intro ?_ ?_; rotate_left; (repeat' (first | exact rfl | apply And.intro)); exact ⟨i + 1, by omega, by rw [HR.out], HD4, HA4⟩))
            case measure => exact HNX.out
    · obtain rfl : i = t.length := by omega
      rw [List.drop_length, show safeL [] = [] from rfl]
      rw [List.take_length] at HD
      have b0 : (bstr []).toList.isEmpty = true := bstr_empty rfl
      go_wp2_with fail
      refine (bstring_any bb t wr HD.out).mono ?_
      rintro e w6 ⟨rfl, hb6⟩
      have HA6 := Lib.hid (HA.out.trans hb6)
      clear hb6
      go_wp2_with fail
      go_ret
      exact ⟨rfl, by rw [HBB.out]; exact HA6.out⟩
end Go.Proofs.YtnkdcmibafjplaaGreatDoor
namespace Go.Proofs.YtnkdcmibafjplaaGreatDoor
open Go.RowKit
set_option linter.unusedVariables false
set_option linter.unusedSimpArgs false

theorem last_at {b : List UInt8} {m : Nat} (h : b.length = m + 1) : b.getLast? = some (b[m]'(by omega)) := by
  have e : b.length - 1 = m := by omega
  simp only [List.getLast?_eq_getElem?, e]
  exact List.getElem?_eq_getElem _
set_option maxRecDepth 100000 in
set_option maxHeartbeats 1000000 in
theorem hasSuf_any (b : List UInt8) (w : World) (hb : b.length ≤ 1000000) : Calls Tryz.prog 152 #[.string (bstr b), .string ⟨#[32]⟩] w fun e w' => e = .returned (.bool (decide (b.getLast? = some 32))) ∧ w' = w := by
  by_cases hn : b = []
  · subst hn
    go_enter Tryz.func152, Tryz.ntmps152
    go_wp2_with fail
    go_ret
    exact ⟨rfl, rfl⟩
  · obtain ⟨m, hm⟩ : ∃ m, b.length = m + 1 := ⟨b.length - 1, by have := List.length_pos_iff.2 hn; omega⟩
    have hl := last_at hm
    have ex : (bstr b).extract m (m + 1) = bstr [b[m]'(by omega)] := by
      rw [← hm, extract_tail b m, List.drop_eq_getElem_cons (by omega), List.drop_of_length_le (by omega)]
    rw [hl]
    have hs : (bstr b).size = m + 1 := hm
    obtain ⟨v, hv⟩ : ∃ v, decide (some (b[m]'(by omega)) = some (32 : UInt8)) = v := ⟨_, rfl⟩
    have b1 : ((bstr [b[m]'(by omega)]).toList == [32]) = v := by
      rw [← hv, bstr_toList]
      by_cases q : b[m]'(by omega) = 32
      · rw [decide_eq_true (by rw [q]), q]; rfl
      · rw [decide_eq_false (fun e => q (Option.some.inj e)), beq_eq_false_iff_ne]
        intro e
        injection e with e
        exact q e
    rw [hv]
    generalize b[m]'(by omega) = c at *
    have hw : IntKind.i64.wrap ((m : Int) + 1 - 1) = (m : Int) := by rw [IntWalk.i64_in _ (by omega)]; omega
    clear hl hv hn
    go_enter Tryz.func152, Tryz.ntmps152
    go_wp2_with fail
    go_ret
    exact ⟨rfl, rfl⟩
set_option maxRecDepth 100000 in
set_option maxHeartbeats 1000000 in
theorem trimSuf_any (b : List UInt8) (w : World) (hb : b.length ≤ 1000000) : Calls Tryz.prog 64 #[.string (bstr b), .string ⟨#[32]⟩] w fun e w' => e = .returned (.string (bstr (chop b))) ∧ w' = w := by
  have key : Calls Tryz.prog 101 #[.string (bstr b), .string ⟨#[32]⟩] w fun e w' => e = .returned (.string (bstr (chop b))) ∧ w' = w := by
    have HC := Lib.hid (hasSuf_any b w hb)
    by_cases q : b.getLast? = some 32
    · rw [decide_eq_true q] at HC
      have e1 : chop b = b.dropLast := if_pos q
      rw [e1]
      have hne : b ≠ [] := by rintro rfl; simp at q
      obtain ⟨m, hm⟩ : ∃ m, b.length = m + 1 := ⟨b.length - 1, by have := List.length_pos_iff.2 hne; omega⟩
      have ex : (bstr b).extract 0 m = bstr b.dropLast := by rw [extract_head, List.dropLast_eq_take, hm]; rfl
      have hs : (bstr b).size = m + 1 := hm
      have hw : wrap64 (m : Int) = (m : Int) := IntWalk.wrap64_in _ ⟨by omega, by omega⟩
      clear q e1 hne hm
      go_enter Tryz.func101, Tryz.ntmps101
      go_wp2_with fail
      refine HC.out.mono ?_
      rintro e w1 ⟨rfl, rfl⟩
      go_wp2_with fail
      go_ret
      exact ⟨rfl, rfl⟩
    · rw [decide_eq_false q] at HC
      have e1 : chop b = b := if_neg q
      rw [e1]
      clear q e1
      go_enter Tryz.func101, Tryz.ntmps101
      go_wp2_with fail
      refine HC.out.mono ?_
      rintro e w1 ⟨rfl, rfl⟩
      go_wp2_with fail
      go_ret
      exact ⟨rfl, rfl⟩
  go_enter Tryz.func64, Tryz.ntmps64
  go_wp2_with fail
  refine key.mono ?_
  rintro e w1 ⟨rfl, rfl⟩
  go_wp2_with fail
  go_ret
  exact ⟨rfl, rfl⟩
theorem u8_own {w : World} {B : Nat} {v : Value} {b : List UInt8} (h : w.ownsRow B 5 1 v b.length (bys b)) : (Rp.sl Rp.u8).ok w (· < w.heap.size) [v] b :=
  Rp.of_own1 rfl h (fun g hg => (h.lt g hg).2) (fun a _ => Rp.u8_ok w _ a)
theorem wrapT {m : Nat} (h : m ≤ 200000) : wrap64 (m : Int) = (m : Int) ∧ IntKind.i64.wrap (m : Int) = (m : Int) := ⟨IntWalk.wrap64_in _ ⟨by omega, by omega⟩, IntWalk.i64_in _ (by omega)⟩
theorem bys_appT (a b : List UInt8) : bys (a ++ b) = bys a ++ bys b := by simp [bys]
set_option maxRecDepth 100000 in
set_option maxHeartbeats 4000000 in
theorem tidy_any (t : List UInt8) (w : World) (ht : t.length ≤ 200000) : Calls Tryz.prog 25 #[.string (bstr t)] w fun e w' => e = .returned (.string (bstr (tidyL t))) ∧ Below w.heap.size w w' := by
  go_enter Tryz.func25, Tryz.ntmps25
  go_wp2_with fail
  go_loopw [3, 7] (fun vb vi wr => ∃ (i : Nat) (v : Value), i ≤ t.length ∧ v = vb ∧ vi = .int .i64 i ∧ Hid (wr.ownsRow w.heap.size 5 1 v (tAt t i).length (bys (tAt t i))) ∧ Hid (Below w.heap.size w wr)) (fun _ vi _ => t.length - (intOf vi).toNat)
  case atStart => exact ⟨0, _, by omega, rfl, rfl, Lib.hid (by rw [tAt_zero]; exact World.ownsRow_nil _ _ _ _), Below.refl _ _⟩
  case round =>
    obtain ⟨i, v, hi, rfl, rfl, HO, HB⟩ := hrel
    have htl := tAt_len t i hi
    have hwsz := HB.out.size
    by_cases hlt : i < t.length
    · have h1 : (i : Int) < ((bstr t).size : Int) := by rw [bstr_size]; omega
      have h2 : i < (bstr t).size := hlt
      have hb : ((bstr t)[i]'h2).toNat = (t[i]'hlt).toNat := rfl
      have hn : (t[i]'hlt).toNat < 256 := UInt8.toNat_lt _
      have HS := Lib.hid (tAt_succ hlt)
      have HC := Lib.hid (fun w' => blank_any _ w' hn)
      rw [blkN_eq] at HC
      generalize t[i] = c at *
      generalize tAt t i = b at *
      have hcn : ((c.toNat : Int)) = (c.toNat : Int) := rfl
      cases hbl : blkB c with
      | false =>
        have HE : Hid (tStep b c = b ++ [c]) := Lib.hid (if_pos hbl)
        rw [hbl] at HC
        obtain ⟨Av, cv, rfl, _⟩ := own_form HO.out
        clear hbl hcn
        go_wp2_with fail
        refine (HC.out _).mono ?_
        rintro e w1 ⟨rfl, rfl⟩
        go_wp2_with (at_builtin; refine app_new (w := w1) rfl (.tmp 16) (.tmp 20) 33 rfl 5 (.int .u8 0) 1 1 Tryz.underlying33 by_info rfl (by decide) (m := 1) [.int .u8 (c.toNat : Int)] HO.out hwsz rfl rfl rfl (by decide) (by simp [Value.oneCell']) (by unfold maxLen; omega) (by omega) ?_; intro g4 c4 w4 HB4 HG4 HD4 HL4)
        go_roundw
        case rel => first | exact ⟨i + 1, _, by omega, rfl, by go_num, Lib.hid (by rw [HS.out, HE.out, List.length_append, bys_appT]; exact HB4.out), Lib.hid (HD4.out _ HB.out)⟩ | (repeat (apply Exists.intro); (refine And.intro ?_ ?_; rotate_left; (repeat' (first | exact rfl | apply And.intro)); exact ⟨i + 1, _, by omega, rfl, by go_num, Lib.hid (by rw [HS.out, HE.out, List.length_append, bys_appT]; exact HB4.out), Lib.hid (HD4.out _ HB.out)⟩))
        case measure => simp [intOf]; omega
      | true =>
        rw [hbl] at HC
        by_cases hbn : b = []
        · have HE : Hid (tStep b c = b) := Lib.hid (by rw [tStep, if_neg (by rw [hbl]; decide), if_neg (fun h => h.1 hbn)])
          have hb0 : b.length = 0 := by rw [hbn]; rfl
          rw [← HE.out, ← HS.out] at HO
          have hl0 : (tAt t (i + 1)).length = 0 := by rw [HS.out, HE.out, hb0]
          obtain ⟨Av, cv, rfl, _⟩ := own_form HO.out
          rw [hl0]
          have HL0 := Lib.hid hl0
          clear hbl hbn hb0 hl0
          go_wp2_with fail
          refine (HC.out _).mono ?_
          rintro e w1 ⟨rfl, rfl⟩
          go_wp2_with fail
          go_roundw
          case rel => first | exact ⟨i + 1, _, by omega, rfl, by go_num, Lib.hid (by have := HO.out; rw [HL0.out] at this ⊢; exact this), HB⟩ | (repeat (apply Exists.intro); (refine And.intro ?_ ?_; rotate_left; (repeat' (first | exact rfl | apply And.intro)); exact ⟨i + 1, _, by omega, rfl, by go_num, Lib.hid (by have := HO.out; rw [HL0.out] at this ⊢; exact this), HB⟩))
          case measure => simp [intOf]; omega
        · obtain ⟨m, hm⟩ : ∃ m, b.length = m + 1 := ⟨b.length - 1, by have := List.length_pos_iff.2 hbn; omega⟩
          have hla := last_at hm
          have HR := u8_own HO.out
          obtain ⟨Av, cv, rfl, _⟩ := own_form HO.out
          obtain ⟨ad, u, hAv, hadb, hu, hcell⟩ := Rp.sl_at1 rfl HR (k := m) (by omega)
          subst hAv
          have hu2 : u = .int .u8 ((b[m]'(by omega)).toNat : Int) := by injection hu
          subst hu2
          have HM := Lib.hid hm
          have hm9 : m ≤ 200000 := by omega
          have hw := (wrapT hm9).1
          have hw2 := (wrapT hm9).2
          obtain ⟨d, hd⟩ : ∃ d, b[m]'(by omega) = d := ⟨_, rfl⟩
          rw [hd] at hcell hla
          clear hd HR hu
          by_cases h32 : d = 32
          · have HE : Hid (tStep b c = b) := Lib.hid (by rw [tStep, if_neg (by rw [hbl]; decide), if_neg (fun h => h.2 (by rw [hla, h32]))])
            have hd32 : ((d.toNat : Int) != 32) = false := by rw [h32]; rfl
            rw [hm]
            clear hbl hbn hla h32 hm
            go_wp2_with fail
            refine (HC.out _).mono ?_
            rintro e w1 ⟨rfl, rfl⟩
            go_wp2_with fail
            go_roundw
            case rel => first | exact ⟨i + 1, _, by omega, rfl, by go_num, Lib.hid (by rw [HS.out, HE.out]; have := HO.out; rw [HM.out] at this ⊢; exact this), HB⟩ | (repeat (apply Exists.intro); (refine And.intro ?_ ?_; rotate_left; (repeat' (first | exact rfl | apply And.intro)); exact ⟨i + 1, _, by omega, rfl, by go_num, Lib.hid (by rw [HS.out, HE.out]; have := HO.out; rw [HM.out] at this ⊢; exact this), HB⟩))
            case measure => simp [intOf]; omega
          · have HE : Hid (tStep b c = b ++ [32]) := Lib.hid (by rw [tStep, if_neg (by rw [hbl]; decide), if_pos ⟨hbn, by rw [hla]; exact fun e => h32 (Option.some.inj e)⟩])
            have hd32 : ((d.toNat : Int) != 32) = true := by
              rw [bne_iff_ne]
              intro e
              exact h32 (UInt8.toNat_inj.1 (by show d.toNat = 32; omega))
            rw [hm]
            have HO2 := HO
            rw [hm] at HO2
            clear hbl hbn hla h32 hm
            go_wp2_with fail
            refine (HC.out _).mono ?_
            rintro e w1 ⟨rfl, rfl⟩
            go_wp2_with (at_builtin; refine app_new (w := w1) rfl (.tmp 35) (.tmp 36) 33 rfl 5 (.int .u8 0) 1 1 Tryz.underlying33 by_info rfl (by decide) (m := 1) [.int .u8 32] HO2.out hwsz rfl rfl rfl (by decide) (by simp [Value.oneCell']) (by unfold maxLen; omega) (by omega) ?_; intro g4 c4 w4 HB4 HG4 HD4 HL4)
            go_roundw
            case rel => first | exact ⟨i + 1, _, by omega, rfl, by go_num, Lib.hid (by rw [HS.out, HE.out, List.length_append, bys_appT, HM.out]; exact HB4.out), Lib.hid (HD4.out _ HB.out)⟩ | (repeat (apply Exists.intro); (refine And.intro ?_ ?_; rotate_left; (repeat' (first | exact rfl | apply And.intro)); exact ⟨i + 1, _, by omega, rfl, by go_num, Lib.hid (by rw [HS.out, HE.out, List.length_append, bys_appT, HM.out]; exact HB4.out), Lib.hid (HD4.out _ HB.out)⟩))
            case measure => simp [intOf]; omega
    · obtain rfl : i = t.length := by omega
      have h1 : ¬ (t.length : Int) < ((bstr t).size : Int) := by rw [bstr_size]; omega
      have h2 : ¬ t.length < (bstr t).size := by rw [bstr_size]; omega
      have HR := u8_own HO.out
      obtain ⟨Av, cv, rfl, _⟩ := own_form HO.out
      have hcv := conv_bytes (P := Tryz.prog) 33 5 9 Tryz.underlying33 Tryz.underlying5 Tryz.underlying9 HR
      have HTS := Lib.hid (trimSuf_any (tAt t t.length) wr (by omega))
      clear HR
      go_wp2_with fail
      refine HTS.out.mono ?_
      rintro e w1 ⟨rfl, rfl⟩
      go_wp2_with fail
      go_ret
      exact ⟨rfl, HB.out⟩
end Go.Proofs.YtnkdcmibafjplaaGreatDoor
namespace Go.Proofs.YtnkdcmibafjplaaGreatDoor
open Go.RowKit
set_option linter.unusedVariables false
set_option linter.unusedSimpArgs false

set_option maxRecDepth 100000 in
set_option maxHeartbeats 1000000 in
theorem indexStr_any (v : Value) (l : List (List UInt8)) (x : List UInt8) (w : World) (S : Nat → Prop) (h : (Rp.sl Rp.str).ok w S [v] (l.map bstr)) :
    Calls Tryz.prog 72 #[v, .string (bstr x)] w fun e w' => ∃ i : Int, e = .returned (.int .i64 i) ∧ Hid (0 ≤ i ↔ x ∈ l) ∧ w' = w := by
  obtain ⟨A, c, rfl, hl, hc, _⟩ := Rp.sl_open h
  unfold maxLen at hc
  rw [List.length_map] at *
  have H := Lib.hid h
  clear h
  go_enter Tryz.func72, Tryz.ntmps72
  go_wp2
  go_loop [8] (fun i => ∃ k : Nat, k ≤ l.length ∧ i = .int .i64 k ∧ Hid (∀ y ∈ l.take k, y ≠ x)) (fun i => l.length - (intOf i).toNat)
  case atStart => exact ⟨0, by omega, rfl, by simp [Hid]⟩
  case round =>
    obtain ⟨k, hk, rfl, HT⟩ := hrel
    by_cases hlt : k < l.length
    · have hkm : k < (l.map bstr).length := by rw [List.length_map]; exact hlt
      have H' := H.out
      obtain ⟨ad, u, rfl, _, hu, hcell⟩ := Rp.sl_at1 rfl H' hkm
      obtain ⟨e1, _⟩ := hu
      injection e1 with e1
      subst e1
      rw [List.getElem_map] at hcell
      by_cases hq : x = l[k]
      · have hb1 : ((bstr x).toList == (bstr l[k]).toList) = true := str_beq (by rw [hq])
        have HM : Hid (x ∈ l) := Lib.hid (by rw [hq]; exact List.getElem_mem hlt)
        clear hq H'
        go_wp2
        go_ret
        exact ⟨k, rfl, Lib.hid ⟨fun _ => HM.out, fun _ => by omega⟩, rfl⟩
      · have hb1 : ((bstr x).toList == (bstr l[k]).toList) = false := str_bne (fun e => hq (bstr_inj e))
        have HT2 : Hid (∀ y ∈ l.take (k + 1), y ≠ x) := fun y hy => by
          rw [List.take_succ_eq_append_getElem hlt, List.mem_append, List.mem_singleton] at hy
          rcases hy with hy | rfl
          · exact HT.out y hy
          · exact Ne.symm hq
        clear hq H'
        go_wp2
        go_round
        case rel => exact ⟨k + 1, by omega, by go_num, HT2⟩
        case measure => simp [intOf]; omega
    · have HM : Hid (x ∉ l) := Lib.hid (fun hx => HT.out x (by rw [List.take_of_length_le (by omega)]; exact hx) rfl)
      go_wp2
      go_ret
      exact ⟨-1, rfl, Lib.hid ⟨fun h => absurd h (by decide), fun h => absurd h HM.out⟩, rfl⟩
set_option maxRecDepth 100000 in
set_option maxHeartbeats 1000000 in
theorem contains_any (v : Value) (l : List (List UInt8)) (x : List UInt8) (w : World) (S : Nat → Prop) (h : (Rp.sl Rp.str).ok w S [v] (l.map bstr)) :
    Calls Tryz.prog 35 #[v, .string (bstr x)] w fun e w' => e = .returned (.bool (decide (x ∈ l))) ∧ w' = w := by
  have hi := indexStr_any v l x w S h
  clear h
  go_enter Tryz.func35, Tryz.ntmps35
  go_wp2_with fail
  refine hi.mono ?_
  rintro e w1 ⟨i, rfl, hd, rfl⟩
  clear hi
  by_cases hi : 0 ≤ i
  · have HF := Lib.hid (decide_eq_true (hd.out.1 hi))
    go_wp2_with fail
    go_ret
    exact ⟨by rw [HF.out]; rfl, rfl⟩
  · have HF := Lib.hid (decide_eq_false (fun h => hi (hd.out.2 h)))
    go_wp2_with fail
    go_ret
    exact ⟨by rw [HF.out]; show Ending.returned (.bool (decide (0 ≤ i))) = _; rw [decide_eq_false (by omega)], rfl⟩
end Go.Proofs.YtnkdcmibafjplaaGreatDoor
namespace Go.Proofs.YtnkdcmibafjplaaGreatDoor
open Go.RowKit Go.Shelf
set_option linter.unusedVariables false
set_option linter.unusedSimpArgs false

set_option maxRecDepth 100000 in
set_option maxHeartbeats 2000000 in
theorem checked_any (e : List UInt8) (he : ∀ c ∈ e, c ≠ 60) (hn : e.length ≤ 150000) (v : Value) (w : World) (S : Nat → Prop) (h : (Rp.sl Rp.u8).ok w S [v] (pgL e)) :
    Calls Tryz.prog 22 #[v] w fun x w' => ∃ v, x = .returned (.tuple #[v, .int .i64 0]) ∧ w'.ownsRow w.heap.size 89 5 v (toksL e.length).length (toksL e.length).flatten ∧ Below w.heap.size w w' := by
  obtain ⟨A, c, rfl, hl, hc, _⟩ := Rp.sl_open h
  have hpl := pgL_len e
  have hcv := conv_bytes (P := Tryz.prog) 33 5 9 Tryz.underlying33 Tryz.underlying5 Tryz.underlying9 h
  have HT := Lib.hid (tokens_any e he hn w)
  generalize pgL e = p at *
  have h1 : ¬ (200000 : Int) < (p.length : Int) := by omega
  clear h he hn hpl
  go_enter Tryz.func22, Tryz.ntmps22
  go_wp2_with fail
  refine HT.out.mono ?_
  rintro x w1 ⟨v, rfl, ho, hb⟩
  have HO := Lib.hid ho
  have HB := Lib.hid hb
  clear ho hb
  go_wp2_with fail
  go_ret2
  exact ⟨_, rfl, HO.out, HB.out⟩
/-- A row's block and cells. -/
theorem own_view {w : World} {B : Nat} {e : TypeId} {size n : Nat} {v : Value} {xs : List Value} (h : w.ownsRow B e size v n xs) (hn : n ≠ 0) : ∃ g c, v = .slice (some ⟨g, 0, none⟩) n c ∧ g < w.heap.size ∧ ∀ i u, xs[i]? = some u → w.cell? ⟨g, i, none⟩ = some u := by
  rcases h.2 with ⟨_, h0⟩ | ⟨g, cap, cur, rfl, hb, hh, hnc, hm, hcs, ht⟩
  · exact absurd h0 hn
  · refine ⟨g, cap, rfl, (h.lt g rfl).2, fun i u hu => ?_⟩
    have := h.cells (g := g) rfl i u hu
    have hadd : (⟨g, 0, none⟩ : Addr).add i = ⟨g, i, none⟩ := by unfold Addr.add; split <;> simp_all
    rwa [hadd] at this
set_option maxRecDepth 100000 in
set_option maxHeartbeats 2000000 in
theorem behind_p (g n c : Nat) (v : Value) (w : World) (S : Nat → Prop) (hn : 1 < n) (hn2 : n ≤ 10) (hg : g < w.heap.size) (k0 : w.cell? ⟨g, 0, none⟩ = some (.int .i64 2)) (k1 : w.cell? ⟨g, 5, none⟩ = some (.int .i64 1)) (k2 : w.cell? ⟨g, 3, none⟩ = some (.string (bstr [112])))
    (hv : (Rp.sl Rp.str).ok w S [v] ([[115, 99, 114, 105, 112, 116], [115, 116, 121, 108, 101], [116, 105, 116, 108, 101]].map bstr)) :
    Calls Tryz.prog 23 #[.slice (some ⟨g, 0, none⟩) n c, .int .i64 1, v] w fun x w' => x = .returned (.bool false) ∧ Below w.heap.size w w' := by
  have hn' : (1 : Int) < (n : Int) := by omega
  have hn0 : (0 : Int) < (n : Int) := by omega
  have hn3 : 0 < n := by omega
  obtain ⟨A, cc, rfl, _⟩ := Rp.sl_open hv
  have HC := Lib.hid (contains_any _ _ [112] w S hv)
  clear hv
  go_enter Tryz.func23, Tryz.ntmps23
  go_wp2_with fail
  refine HC.out.mono ?_
  rintro x w1 ⟨rfl, rfl⟩
  rw [show decide ([112] ∈ ([[115, 99, 114, 105, 112, 116], [115, 116, 121, 108, 101], [116, 105, 116, 108, 101]] : List (List UInt8))) = false from by decide]
  go_wp2_with fail
  go_ret
  exact ⟨rfl, Below.refl _ _⟩
/-- The cells of the row of tokens. -/
def TkRow (g n : Nat) (w : World) : Prop := g < w.heap.size ∧ ∀ i u, (toksL n).flatten[i]? = some u → w.cell? ⟨g, i, none⟩ = some u
theorem TkRow.ext {g n : Nat} {w w' : World} (h : TkRow g n w) (hb : Below w.heap.size w w') : TkRow g n w' :=
  ⟨Nat.lt_of_lt_of_le h.1 hb.size, fun i u hu => (hb.cell (p := ⟨g, i, none⟩) h.1).trans (h.2 i u hu)⟩
set_option maxRecDepth 100000 in
set_option maxHeartbeats 8000000 in
theorem said_any (t : List UInt8) (ht : t.length ≤ 20000) (v : Value) (w : World) (h : (Rp.sl Rp.u8).ok w (· < w.heap.size) [v] (pgL (safeL t))) :
    Calls Tryz.prog 8 #[v] w fun x w' => x = .returned (.tuple #[.string (bstr (tidyL t)), .int .i64 0]) ∧ Below w.heap.size w w' := by
  have hel := (safeL_len t).2
  have HCK := Lib.hid (checked_any (safeL t) safeL_no (by omega) v w _ h)
  have HME := Lib.hid (fun w' => meant_any t w' ht)
  have HTY := Lib.hid (fun w' => tidy_any t w' (by omega))
  have H := Lib.hid h
  have HCUT := Lib.hid (pgL_cut (safeL t))
  have HPL := Lib.hid (pgL_len (safeL t))
  have HNIL : Hid ((safeL t).length = 0 → t = []) := Lib.hid (fun h0 => by
    have := (safeL_len t).1
    exact List.eq_nil_of_length_eq_zero (by omega))
  generalize hn : (safeL t).length = n at *
  have HN := Lib.hid hn
  obtain ⟨Ab, cb, rfl, hbl, hbc, _⟩ := Rp.sl_open h
  rw [HPL.out] at hbl
  unfold maxLen at hbc
  clear h hn
  go_enter Tryz.func8, Tryz.ntmps8
  go_wp2_with fail
  refine HCK.out.mono ?_
  rintro x w1 ⟨v, rfl, ho, hb⟩
  have h0 : (toksL n).length ≠ 0 := by unfold toksL; split <;> simp
  obtain ⟨g, c, rfl, hg, hcell⟩ := own_view ho h0
  have HTK1 : Hid (TkRow g n w1) := Lib.hid ⟨hg, hcell⟩
  have HB1 := Lib.hid hb
  have H1 := Lib.hid (Rp.ext _ H.out hb)
  clear ho hb hcell hg h0 HCK H
  by_cases hn0 : n = 0
  · have ht0 : t = [] := HNIL.out hn0
    subst hn0
    rw [show (toksL 0).length = 2 from rfl]
    go_wp2_with fail
    go_loopw [6, 19] (fun vo vk wr => ∃ k : Nat, k ≤ 2 ∧ vo = .slice none 0 0 ∧ vk = .int .i64 k ∧ Hid (TkRow g 0 wr) ∧ Hid (Below w.heap.size w wr)) (fun _ vk _ => 2 - (intOf vk).toNat)
    case atStart => exact ⟨0, by omega, rfl, rfl, HTK1, HB1⟩
    case round =>
      clear HTK1 HB1
      obtain ⟨k, hk, rfl, rfl, HTK, HB⟩ := hrel
      have hk3 : k = 0 ∨ k = 1 ∨ k = 2 := by omega
      rcases hk3 with rfl | rfl | rfl
      · rw [show (((0 : Nat) : Int)) = 0 from rfl]
        have t0 : wr.cell? ⟨g, 0, none⟩ = some (.int .i64 2) := HTK.out.2 0 _ rfl
        have t1 : wr.cell? ⟨g, 1, none⟩ = some (.int .i64 0) := HTK.out.2 1 _ rfl
        have t2 : wr.cell? ⟨g, 2, none⟩ = some (.int .i64 3) := HTK.out.2 2 _ rfl
        have t3 : wr.cell? ⟨g, 3, none⟩ = some (.string (bstr [112])) := HTK.out.2 3 _ rfl
        have t4 : wr.cell? ⟨g, 4, none⟩ = some (.slice none 0 0) := HTK.out.2 4 _ rfl
        have hal := (Below.refl wr.heap.size wr).alloc (Nat.le_refl _) (.cells #[.int .i64 2, .int .i64 0, .int .i64 3, .string (bstr [112]), .slice none 0 0] 89)
        have hxb := Blk.new wr 89 [.int .i64 2, .int .i64 0, .int .i64 3, .string (bstr [112]), .slice none 0 0]
        have x0 : (wr.alloc (.cells #[.int .i64 2, .int .i64 0, .int .i64 3, .string (bstr [112]), .slice none 0 0] 89)).cell? ⟨wr.heap.size, 0, none⟩ = some (.int .i64 2) := hxb.cell 0
        have x1 : (wr.alloc (.cells #[.int .i64 2, .int .i64 0, .int .i64 3, .string (bstr [112]), .slice none 0 0] 89)).cell? ⟨wr.heap.size, 1, none⟩ = some (.int .i64 0) := hxb.cell 1
        have x2 : (wr.alloc (.cells #[.int .i64 2, .int .i64 0, .int .i64 3, .string (bstr [112]), .slice none 0 0] 89)).cell? ⟨wr.heap.size, 2, none⟩ = some (.int .i64 3) := hxb.cell 2
        have x3 : (wr.alloc (.cells #[.int .i64 2, .int .i64 0, .int .i64 3, .string (bstr [112]), .slice none 0 0] 89)).cell? ⟨wr.heap.size, 3, none⟩ = some (.string (bstr [112])) := hxb.cell 3
        have x4 : (wr.alloc (.cells #[.int .i64 2, .int .i64 0, .int .i64 3, .string (bstr [112]), .slice none 0 0] 89)).cell? ⟨wr.heap.size, 4, none⟩ = some (.slice none 0 0) := hxb.cell 4
        have HTKn := Lib.hid (HTK.out.ext hal)
        have HBn := Lib.hid (ext_trans HB.out hal)
        clear hal hxb
        go_wp2_with fail
        go_roundw
        case rel => first | exact ⟨1, by omega, rfl, rfl, HTKn, HBn⟩ | (repeat (apply Exists.intro); (refine And.intro ?_ ?_; rotate_left; (repeat' (first | exact rfl | apply And.intro)); exact ⟨1, by omega, rfl, rfl, HTKn, HBn⟩))
        case measure => simp [intOf]
      · rw [show (((1 : Nat) : Int)) = 1 from rfl]
        have t0 : wr.cell? ⟨g, 5, none⟩ = some (.int .i64 3) := HTK.out.2 5 _ rfl
        have t1 : wr.cell? ⟨g, 6, none⟩ = some (.int .i64 3) := HTK.out.2 6 _ rfl
        have t2 : wr.cell? ⟨g, 7, none⟩ = some (.int .i64 7) := HTK.out.2 7 _ rfl
        have t3 : wr.cell? ⟨g, 8, none⟩ = some (.string (bstr [112])) := HTK.out.2 8 _ rfl
        have t4 : wr.cell? ⟨g, 9, none⟩ = some (.slice none 0 0) := HTK.out.2 9 _ rfl
        have hal := (Below.refl wr.heap.size wr).alloc (Nat.le_refl _) (.cells #[.int .i64 3, .int .i64 3, .int .i64 7, .string (bstr [112]), .slice none 0 0] 89)
        have hxb := Blk.new wr 89 [.int .i64 3, .int .i64 3, .int .i64 7, .string (bstr [112]), .slice none 0 0]
        have x0 : (wr.alloc (.cells #[.int .i64 3, .int .i64 3, .int .i64 7, .string (bstr [112]), .slice none 0 0] 89)).cell? ⟨wr.heap.size, 0, none⟩ = some (.int .i64 3) := hxb.cell 0
        have x1 : (wr.alloc (.cells #[.int .i64 3, .int .i64 3, .int .i64 7, .string (bstr [112]), .slice none 0 0] 89)).cell? ⟨wr.heap.size, 1, none⟩ = some (.int .i64 3) := hxb.cell 1
        have x2 : (wr.alloc (.cells #[.int .i64 3, .int .i64 3, .int .i64 7, .string (bstr [112]), .slice none 0 0] 89)).cell? ⟨wr.heap.size, 2, none⟩ = some (.int .i64 7) := hxb.cell 2
        have x3 : (wr.alloc (.cells #[.int .i64 3, .int .i64 3, .int .i64 7, .string (bstr [112]), .slice none 0 0] 89)).cell? ⟨wr.heap.size, 3, none⟩ = some (.string (bstr [112])) := hxb.cell 3
        have x4 : (wr.alloc (.cells #[.int .i64 3, .int .i64 3, .int .i64 7, .string (bstr [112]), .slice none 0 0] 89)).cell? ⟨wr.heap.size, 4, none⟩ = some (.slice none 0 0) := hxb.cell 4
        have HTKn := Lib.hid (HTK.out.ext hal)
        have HBn := Lib.hid (ext_trans HB.out hal)
        clear hal hxb
        go_wp2_with fail
        go_roundw
        case rel => first | exact ⟨2, by omega, rfl, rfl, HTKn, HBn⟩ | (repeat (apply Exists.intro); (refine And.intro ?_ ?_; rotate_left; (repeat' (first | exact rfl | apply And.intro)); exact ⟨2, by omega, rfl, rfl, HTKn, HBn⟩))
        case measure => simp [intOf]
      · rw [show (((2 : Nat) : Int)) = 2 from rfl]
        go_wp2_with fail
        refine (Any.strings_Join_none joinLays joinExtra none 0 ⟨#[32]⟩ wr).mono ?_
        rintro x w2 ⟨rfl, hw2⟩
        subst hw2
        have HT := Lib.hid (HTY.out w2)
        rw [ht0] at HT
        go_wp2_with fail
        refine HT.out.mono ?_
        rintro x w3 ⟨rfl, hb3⟩
        have HB3 := Lib.hid (ext_trans HB.out hb3)
        clear hb3
        go_wp2_with fail
        go_ret2
        rw [ht0]
        exact ⟨rfl, HB3.out⟩
  · have hn0 : 0 < n := by omega
    have hfl : toksL n = [tokC 2 0 3 [112], tokC 1 3 (3 + n) [], tokC 3 (3 + n) (3 + n + 4) [112]] := by unfold toksL; rw [if_pos hn0]; rfl
    have hl3 : (toksL n).length = 3 := by rw [hfl]; rfl
    rw [hl3]
    obtain ⟨m, hm⟩ : ∃ m, 3 + n = m := ⟨_, rfl⟩
    rw [hm] at hfl
    have HFL : Hid ((toksL n).flatten = [.int .i64 2, .int .i64 0, .int .i64 3, .string (bstr [112]), .slice none 0 0, .int .i64 1, .int .i64 3, .int .i64 (m : Nat), .string (bstr []), .slice none 0 0, .int .i64 3, .int .i64 (m : Nat), .int .i64 ((m + 4 : Nat) : Int), .string (bstr [112]), .slice none 0 0]) := Lib.hid (by rw [hfl]; rfl)
    have HMN := Lib.hid hm
    clear hfl hl3 hm
    go_wp2_with fail
    go_loopw [6, 19] (fun vo vk wr => ∃ (k : Nat) (v : Value), k ≤ 3 ∧ v = vo ∧ vk = .int .i64 k ∧ Hid (TkRow g n wr) ∧ Hid (Below w1.heap.size w1 wr) ∧ Hid (wr.ownsRow w.heap.size 9 1 v (if 1 < k then [t] else []).length (strs (if 1 < k then [t] else []))) ∧ Hid (k ≤ 1 → v = .slice none 0 0)) (fun _ vk _ => 3 - (intOf vk).toNat)
    case atStart => exact ⟨0, _, by omega, rfl, rfl, HTK1, Below.refl _ _, Lib.hid (World.ownsRow_nil _ _ _ _), Lib.hid (fun _ => rfl)⟩
    case round =>
      obtain ⟨k, v, hk, rfl, rfl, HTK, HB, HO, HV⟩ := hrel
      have hk3 : k = 0 ∨ k = 1 ∨ k = 2 ∨ k = 3 := by omega
      rcases hk3 with rfl | rfl | rfl | rfl
      · rw [show (((0 : Nat) : Int)) = 0 from rfl]
        have t0 : wr.cell? ⟨g, 0, none⟩ = some (.int .i64 2) := HTK.out.2 0 _ (by rw [HFL.out]; rfl)
        have t1 : wr.cell? ⟨g, 1, none⟩ = some (.int .i64 0) := HTK.out.2 1 _ (by rw [HFL.out]; rfl)
        have t2 : wr.cell? ⟨g, 2, none⟩ = some (.int .i64 3) := HTK.out.2 2 _ (by rw [HFL.out]; rfl)
        have t3 : wr.cell? ⟨g, 3, none⟩ = some (.string (bstr [112])) := HTK.out.2 3 _ (by rw [HFL.out]; rfl)
        have t4 : wr.cell? ⟨g, 4, none⟩ = some (.slice none 0 0) := HTK.out.2 4 _ (by rw [HFL.out]; rfl)
        have hal := (Below.refl wr.heap.size wr).alloc (Nat.le_refl _) (.cells #[.int .i64 2, .int .i64 0, .int .i64 3, .string (bstr [112]), .slice none 0 0] 89)
        have hxb := Blk.new wr 89 [.int .i64 2, .int .i64 0, .int .i64 3, .string (bstr [112]), .slice none 0 0]
        have x0 : (wr.alloc (.cells #[.int .i64 2, .int .i64 0, .int .i64 3, .string (bstr [112]), .slice none 0 0] 89)).cell? ⟨wr.heap.size, 0, none⟩ = some (.int .i64 2) := hxb.cell 0
        have x1 : (wr.alloc (.cells #[.int .i64 2, .int .i64 0, .int .i64 3, .string (bstr [112]), .slice none 0 0] 89)).cell? ⟨wr.heap.size, 1, none⟩ = some (.int .i64 0) := hxb.cell 1
        have x2 : (wr.alloc (.cells #[.int .i64 2, .int .i64 0, .int .i64 3, .string (bstr [112]), .slice none 0 0] 89)).cell? ⟨wr.heap.size, 2, none⟩ = some (.int .i64 3) := hxb.cell 2
        have x3 : (wr.alloc (.cells #[.int .i64 2, .int .i64 0, .int .i64 3, .string (bstr [112]), .slice none 0 0] 89)).cell? ⟨wr.heap.size, 3, none⟩ = some (.string (bstr [112])) := hxb.cell 3
        have x4 : (wr.alloc (.cells #[.int .i64 2, .int .i64 0, .int .i64 3, .string (bstr [112]), .slice none 0 0] 89)).cell? ⟨wr.heap.size, 4, none⟩ = some (.slice none 0 0) := hxb.cell 4
        have HTKn := Lib.hid (HTK.out.ext hal)
        have HBn := Lib.hid (ext_trans HB.out hal)
        have HOn := Lib.hid (own_belowT HO.out hal)
        clear hal hxb
        go_wp2_with fail
        go_roundw
        case rel => first | exact ⟨1, _, by omega, rfl, rfl, HTKn, HBn, Lib.hid (by rw [if_neg (by decide)]; have := HOn.out; rw [if_neg (by decide)] at this; exact this), Lib.hid (fun _ => HV.out (by decide))⟩ | (repeat (apply Exists.intro); (refine And.intro ?_ ?_; rotate_left; (repeat' (first | exact rfl | apply And.intro)); exact ⟨1, _, by omega, rfl, rfl, HTKn, HBn, Lib.hid (by rw [if_neg (by decide)]; have := HOn.out; rw [if_neg (by decide)] at this; exact this), Lib.hid (fun _ => HV.out (by decide))⟩))
        case measure => simp [intOf]
      · rw [show (((1 : Nat) : Int)) = 1 from rfl]
        have t0 : wr.cell? ⟨g, 5, none⟩ = some (.int .i64 1) := HTK.out.2 5 _ (by rw [HFL.out]; rfl)
        have t1 : wr.cell? ⟨g, 6, none⟩ = some (.int .i64 3) := HTK.out.2 6 _ (by rw [HFL.out]; rfl)
        have t2 : wr.cell? ⟨g, 7, none⟩ = some (.int .i64 (m : Nat)) := HTK.out.2 7 _ (by rw [HFL.out]; rfl)
        have t3 : wr.cell? ⟨g, 8, none⟩ = some (.string (bstr [])) := HTK.out.2 8 _ (by rw [HFL.out]; rfl)
        have t4 : wr.cell? ⟨g, 9, none⟩ = some (.slice none 0 0) := HTK.out.2 9 _ (by rw [HFL.out]; rfl)
        have hal := (Below.refl wr.heap.size wr).alloc (Nat.le_refl _) (.cells #[.int .i64 1, .int .i64 3, .int .i64 (m : Nat), .string (bstr []), .slice none 0 0] 89)
        have hxb := Blk.new wr 89 [.int .i64 1, .int .i64 3, .int .i64 (m : Nat), .string (bstr []), .slice none 0 0]
        have x0 : (wr.alloc (.cells #[.int .i64 1, .int .i64 3, .int .i64 (m : Nat), .string (bstr []), .slice none 0 0] 89)).cell? ⟨wr.heap.size, 0, none⟩ = some (.int .i64 1) := hxb.cell 0
        have x1 : (wr.alloc (.cells #[.int .i64 1, .int .i64 3, .int .i64 (m : Nat), .string (bstr []), .slice none 0 0] 89)).cell? ⟨wr.heap.size, 1, none⟩ = some (.int .i64 3) := hxb.cell 1
        have x2 : (wr.alloc (.cells #[.int .i64 1, .int .i64 3, .int .i64 (m : Nat), .string (bstr []), .slice none 0 0] 89)).cell? ⟨wr.heap.size, 2, none⟩ = some (.int .i64 (m : Nat)) := hxb.cell 2
        have x3 : (wr.alloc (.cells #[.int .i64 1, .int .i64 3, .int .i64 (m : Nat), .string (bstr []), .slice none 0 0] 89)).cell? ⟨wr.heap.size, 3, none⟩ = some (.string (bstr [])) := hxb.cell 3
        have x4 : (wr.alloc (.cells #[.int .i64 1, .int .i64 3, .int .i64 (m : Nat), .string (bstr []), .slice none 0 0] 89)).cell? ⟨wr.heap.size, 4, none⟩ = some (.slice none 0 0) := hxb.cell 4
        have HTK2 := Lib.hid (HTK.out.ext hal)
        have HB2 := Lib.hid (ext_trans HB.out hal)
        have HO2 := Lib.hid (own_belowT HO.out hal)
        have HX2 := Lib.hid hxb
        have HNN := Lib.hid (lit_strs (wr.alloc (.cells #[.int .i64 1, .int .i64 3, .int .i64 (m : Nat), .string (bstr []), .slice none 0 0] 89)) [bstr [115, 99, 114, 105, 112, 116], bstr [115, 116, 121, 108, 101], bstr [116, 105, 116, 108, 101]] (by intro x hx; simp only [List.mem_cons, List.not_mem_nil, or_false] at hx; rcases hx with rfl | rfl | rfl <;> decide) (by decide))
        have hal2 := (Below.refl (wr.alloc (.cells #[.int .i64 1, .int .i64 3, .int .i64 (m : Nat), .string (bstr []), .slice none 0 0] 89)).heap.size (wr.alloc (.cells #[.int .i64 1, .int .i64 3, .int .i64 (m : Nat), .string (bstr []), .slice none 0 0] 89))).alloc (Nat.le_refl _) (.cells ([bstr [115, 99, 114, 105, 112, 116], bstr [115, 116, 121, 108, 101], bstr [116, 105, 116, 108, 101]].map Value.string).toArray 9)
        have HAL2 := Lib.hid hal2
        have hs2 : (wr.alloc (.cells #[.int .i64 1, .int .i64 3, .int .i64 (m : Nat), .string (bstr []), .slice none 0 0] 89)).heap.size = wr.heap.size + 1 := World.size_alloc _ _
        rw [hs2] at HNN
        clear hal hxb HTK HB HO hal2 hs2
        go_wp2_with fail
        clear t0 t1 t2 t3 t4 x0 x1 x2 x3 x4
        generalize wr.alloc (.cells #[.int .i64 1, .int .i64 3, .int .i64 (m : Nat), .string (bstr []), .slice none 0 0] 89) = w2 at *
        have HTK3 := Lib.hid (HTK2.out.ext HAL2.out)
        refine (behind_p g 3 c _ _ _ (by decide) (by decide) HTK3.out.1 (HTK3.out.2 0 _ (by rw [HFL.out]; rfl)) (HTK3.out.2 5 _ (by rw [HFL.out]; rfl)) (HTK3.out.2 3 _ (by rw [HFL.out]; rfl)) HNN.out).mono ?_
        rintro x w3 ⟨rfl, hb3⟩
        have hb23 := ext_trans HAL2.out hb3
        have HTK4 := Lib.hid (HTK2.out.ext hb23)
        have HB4 := Lib.hid (ext_trans HB2.out hb23)
        have HO4 := Lib.hid (own_belowT HO2.out hb23)
        have HX4 := Lib.hid (HX2.out.same (same_below hb23) HX2.out.lt)
        have hsz4 : w.heap.size ≤ w3.heap.size := Nat.le_trans (Nat.le_trans HB1.out.size HB4.out.size) (Nat.le_refl _)
        have H4 := Lib.hid (Rp.ext _ H1.out HB4.out)
        clear hb3 hb23 HTK2 HTK3 HB2 HO2 HX2 HAL2 HNN
        generalize wr.heap.size = xb at *
        have x1 : w3.cell? ⟨xb, 1, none⟩ = some (.int .i64 3) := HX4.out.cell 1
        have x2 : w3.cell? ⟨xb, 2, none⟩ = some (.int .i64 (m : Nat)) := HX4.out.cell 2
        obtain ⟨ad, u, hAb, _⟩ := Rp.sl_at1 rfl H4.out (k := 0) (by rw [HPL.out]; omega)
        subst hAb
        have hcut := Rp.sl_cut1 rfl H4.out (lo := 3) (m := n) hn0 (by rw [HPL.out]; omega)
        rw [HCUT.out] at hcut
        have hcv := conv_bytes (P := Tryz.prog) 33 5 9 Tryz.underlying33 Tryz.underlying5 Tryz.underlying9 hcut
        have hm3 : n = m - 3 := by have := HMN.out; omega
        rw [hm3] at hcv
        have hm4 : 3 ≤ m := by have := HMN.out; omega
        have hm5 : (3 : Int) ≤ (m : Int) := by omega
        have hm6 : m ≤ cb := by have := HMN.out; omega
        have hm7 : (m : Int) ≤ (cb : Int) := by omega
        rw [show ad.add 3 = (⟨ad.block, ad.off + 3, none⟩ : Addr) from by unfold Addr.add; rw [if_neg (by decide)]] at hcv
        clear hm3 hcut
        obtain rfl := HV.out (by decide)
        go_wp2_with fail
        clear hcv hm4 hm5 hm6 hm7 x1 x2
        refine (HME.out w3).mono ?_
        rintro x w5 ⟨rfl, hb5⟩
        have HTK5 := Lib.hid (HTK4.out.ext hb5)
        have HB5 := Lib.hid (ext_trans HB4.out hb5)
        have HO5 := Lib.hid (own_belowT HO4.out hb5)
        have hsz5 : w.heap.size ≤ w5.heap.size := Nat.le_trans hsz4 hb5.size
        clear hb5 HTK4 HB4 HO4 hsz4 HX4 H4
        go_wp2_with (at_builtin; refine app_str (b := bstr t) rfl (.tmp 34) (.tmp 45) rfl HO5.out hsz5 rfl rfl (by simp) ?_; intro g1 cc1 w9 HO9 HG9 HB9 HL9)
        go_roundw
        case rel =>
          have hb9 : Below w5.heap.size w5 w9 := ⟨HG9.out.os, HG9.out.tape, HG9.out.output, HG9.out.size, fun k hk => HG9.out.block k hk (by simp [Value.ownBlock])⟩
          first | exact ⟨2, _, by omega, rfl, rfl, Lib.hid (HTK5.out.ext hb9), Lib.hid (ext_trans HB5.out hb9), HO9, Lib.hid (fun h => absurd h (by decide))⟩ | (repeat (apply Exists.intro); (refine And.intro ?_ ?_; rotate_left; (repeat' (first | exact rfl | apply And.intro)); exact ⟨2, _, by omega, rfl, rfl, Lib.hid (HTK5.out.ext hb9), Lib.hid (ext_trans HB5.out hb9), HO9, Lib.hid (fun h => absurd h (by decide))⟩))
        case measure => simp [intOf]
      · rw [show (((2 : Nat) : Int)) = 2 from rfl]
        have t0 : wr.cell? ⟨g, 10, none⟩ = some (.int .i64 3) := HTK.out.2 10 _ (by rw [HFL.out]; rfl)
        have t1 : wr.cell? ⟨g, 11, none⟩ = some (.int .i64 (m : Nat)) := HTK.out.2 11 _ (by rw [HFL.out]; rfl)
        have t2 : wr.cell? ⟨g, 12, none⟩ = some (.int .i64 ((m + 4 : Nat) : Int)) := HTK.out.2 12 _ (by rw [HFL.out]; rfl)
        have t3 : wr.cell? ⟨g, 13, none⟩ = some (.string (bstr [112])) := HTK.out.2 13 _ (by rw [HFL.out]; rfl)
        have t4 : wr.cell? ⟨g, 14, none⟩ = some (.slice none 0 0) := HTK.out.2 14 _ (by rw [HFL.out]; rfl)
        have hal := (Below.refl wr.heap.size wr).alloc (Nat.le_refl _) (.cells #[.int .i64 3, .int .i64 (m : Nat), .int .i64 ((m + 4 : Nat) : Int), .string (bstr [112]), .slice none 0 0] 89)
        have hxb := Blk.new wr 89 [.int .i64 3, .int .i64 (m : Nat), .int .i64 ((m + 4 : Nat) : Int), .string (bstr [112]), .slice none 0 0]
        have x0 : (wr.alloc (.cells #[.int .i64 3, .int .i64 (m : Nat), .int .i64 ((m + 4 : Nat) : Int), .string (bstr [112]), .slice none 0 0] 89)).cell? ⟨wr.heap.size, 0, none⟩ = some (.int .i64 3) := hxb.cell 0
        have x1 : (wr.alloc (.cells #[.int .i64 3, .int .i64 (m : Nat), .int .i64 ((m + 4 : Nat) : Int), .string (bstr [112]), .slice none 0 0] 89)).cell? ⟨wr.heap.size, 1, none⟩ = some (.int .i64 (m : Nat)) := hxb.cell 1
        have x2 : (wr.alloc (.cells #[.int .i64 3, .int .i64 (m : Nat), .int .i64 ((m + 4 : Nat) : Int), .string (bstr [112]), .slice none 0 0] 89)).cell? ⟨wr.heap.size, 2, none⟩ = some (.int .i64 ((m + 4 : Nat) : Int)) := hxb.cell 2
        have x3 : (wr.alloc (.cells #[.int .i64 3, .int .i64 (m : Nat), .int .i64 ((m + 4 : Nat) : Int), .string (bstr [112]), .slice none 0 0] 89)).cell? ⟨wr.heap.size, 3, none⟩ = some (.string (bstr [112])) := hxb.cell 3
        have x4 : (wr.alloc (.cells #[.int .i64 3, .int .i64 (m : Nat), .int .i64 ((m + 4 : Nat) : Int), .string (bstr [112]), .slice none 0 0] 89)).cell? ⟨wr.heap.size, 4, none⟩ = some (.slice none 0 0) := hxb.cell 4
        have HTKn := Lib.hid (HTK.out.ext hal)
        have HBn := Lib.hid (ext_trans HB.out hal)
        have HOn := Lib.hid (own_belowT HO.out hal)
        clear hal hxb
        go_wp2_with fail
        go_roundw
        case rel => first | exact ⟨3, _, by omega, rfl, rfl, HTKn, HBn, HOn, Lib.hid (fun h => absurd h (by decide))⟩ | (repeat (apply Exists.intro); (refine And.intro ?_ ?_; rotate_left; (repeat' (first | exact rfl | apply And.intro)); exact ⟨3, _, by omega, rfl, rfl, HTKn, HBn, HOn, Lib.hid (fun h => absurd h (by decide))⟩))
        case measure => simp [intOf]
      · rw [show (((3 : Nat) : Int)) = 3 from rfl]
        rw [if_pos (by decide)] at HO
        obtain ⟨g2, c2, rfl, hg2, hc2⟩ := own_view HO.out (by simp)
        have hct := hc2 0 (.string (bstr t)) rfl
        rw [show [t].length = 1 from rfl]
        go_wp2_with fail
        refine (Any.strings_Join_one joinLays joinExtra g2 0 c2 (bstr t) ⟨#[32]⟩ wr hct).mono ?_
        rintro x w2 ⟨rfl, hw2⟩
        subst hw2
        clear hct hc2
        go_wp2_with fail
        refine (HTY.out w2).mono ?_
        rintro x w3 ⟨rfl, hb3⟩
        have HB3 := Lib.hid (ext_trans (ext_trans HB1.out HB.out) hb3)
        clear hb3
        go_wp2_with fail
        go_ret2
        exact ⟨rfl, HB3.out⟩
end Go.Proofs.YtnkdcmibafjplaaGreatDoor
