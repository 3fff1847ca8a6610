/-
  strconv.Itoa, strings.Join at a space, strings.Builder: the library's contracts at this program; dash and or.
-/
import Derived.Test.YtgilcllfdgdofaaGreatDoorTxP
import Derived.Test.YtgilcllfdgdofaaGreatDoorRdC
import Derived.Shelf.Strconv.Itoa3
import Derived.Lib.AppendIntMem
import Derived.Shelf.Strings.OnBuilder
import Derived.Shelf.Strings.BuilderK
namespace Go.Proofs.YtgilcllfdgdofaaGreatDoor
open Go.RowKit Go.Shelf
set_option linter.unusedVariables false
set_option linter.unusedSimpArgs false

def shItoa_ren : Go.Shelf.Ren := ⟨fun | 129 => 123 | 171 => 17 | 243 => 45 | 246 => 63 | 283 => 94 | 284 => 95 | 285 => 96 | 286 => 97 | 317 => 122 | 318 => 124 | 319 => 125 | 320 => 126 | 337 => 136 | 338 => 137 | n => n, fun | 0 => 0 | 2 => 2 | 3 => 3 | 4 => 4 | 5 => 5 | 9 => 9 | 20 => 20 | 37 => 47 | 46 => 103 | 51 => 133 | 53 => 124 | 171 => 123 | 173 => 127 | 212 => 152 | 213 => 153 | 232 => 167 | 233 => 168 | n => n, fun | 17 => 3 | 18 => 6 | 19 => 7 | n => n⟩
theorem shItoa : LaysM.n171 Tryz.prog shItoa_ren := {
  mixed := by kernel_rfl,
  f129 := Tryz.func123.trans (congrArg some (by kernel_rfl)),
  f171 := Tryz.func17.trans (congrArg some (by kernel_rfl)),
  f243 := Tryz.func45.trans (congrArg some (by kernel_rfl)),
  f246 := Tryz.func63.trans (congrArg some (by kernel_rfl)),
  f283 := Tryz.func94.trans (congrArg some (by kernel_rfl)),
  f284 := Tryz.func95.trans (congrArg some (by kernel_rfl)),
  f285 := Tryz.func96.trans (congrArg some (by kernel_rfl)),
  f286 := Tryz.func97.trans (congrArg some (by kernel_rfl)),
  f317 := Tryz.func122.trans (congrArg some (by kernel_rfl)),
  f318 := Tryz.func124.trans (congrArg some (by kernel_rfl)),
  f319 := Tryz.func125.trans (congrArg some (by kernel_rfl)),
  f320 := Tryz.func126.trans (congrArg some (by kernel_rfl)),
  f337 := Tryz.func136.trans (congrArg some (by kernel_rfl)),
  f338 := Tryz.func137.trans (congrArg some (by kernel_rfl)),
  t0 := Tryz.underlying0,
  a0 := Tryz.isAgg0,
  z0 := Tryz.sizeOf0,
  v0 := Tryz.zeroValue0,
  t2 := Tryz.underlying2,
  a2 := Tryz.isAgg2,
  z2 := Tryz.sizeOf2,
  v2 := Tryz.zeroValue2,
  t3 := Tryz.underlying3,
  a3 := Tryz.isAgg3,
  z3 := Tryz.sizeOf3,
  v3 := Tryz.zeroValue3,
  t4 := Tryz.underlying4,
  a4 := Tryz.isAgg4,
  z4 := Tryz.sizeOf4,
  v4 := Tryz.zeroValue4,
  t5 := Tryz.underlying5,
  a5 := Tryz.isAgg5,
  z5 := Tryz.sizeOf5,
  v5 := Tryz.zeroValue5,
  t9 := Tryz.underlying9,
  a9 := Tryz.isAgg9,
  z9 := Tryz.sizeOf9,
  v9 := Tryz.zeroValue9,
  t20 := Tryz.underlying20,
  a20 := Tryz.isAgg20,
  z20 := Tryz.sizeOf20,
  v20 := Tryz.zeroValue20,
  t37 := Tryz.underlying47,
  a37 := Tryz.isAgg47,
  z37 := Tryz.sizeOf47,
  v37 := Tryz.zeroValue47,
  t46 := Tryz.underlying103,
  a46 := Tryz.isAgg103,
  z46 := Tryz.sizeOf103,
  v46 := Tryz.zeroValue103,
  t51 := Tryz.underlying133,
  a51 := Tryz.isAgg133,
  z51 := Tryz.sizeOf133,
  v51 := Tryz.zeroValue133,
  t53 := Tryz.underlying124,
  a53 := Tryz.isAgg124,
  z53 := Tryz.sizeOf124,
  v53 := Tryz.zeroValue124,
  t171 := Tryz.underlying123,
  a171 := Tryz.isAgg123,
  z171 := Tryz.sizeOf123,
  v171 := Tryz.zeroValue123,
  t173 := Tryz.underlying127,
  a173 := Tryz.isAgg127,
  z173 := Tryz.sizeOf127,
  v173 := Tryz.zeroValue127,
  t212 := Tryz.underlying152,
  a212 := Tryz.isAgg152,
  z212 := Tryz.sizeOf152,
  v212 := Tryz.zeroValue152,
  t213 := Tryz.underlying153,
  a213 := Tryz.isAgg153,
  z213 := Tryz.sizeOf153,
  t232 := Tryz.underlying167,
  a232 := Tryz.isAgg167,
  z232 := Tryz.sizeOf167,
  v232 := Tryz.zeroValue167,
  t233 := Tryz.underlying168,
  a233 := Tryz.isAgg168,
  z233 := Tryz.sizeOf168,
  v233 := Tryz.zeroValue168,
  g17 := by kernel_rfl,
  g18 := by kernel_rfl,
  g19 := by kernel_rfl,
  i0 := by kernel_rfl,
  i2 := by kernel_rfl,
  i3 := by kernel_rfl,
  i4 := by kernel_rfl,
  i5 := by kernel_rfl,
  i9 := by kernel_rfl,
  i20 := by kernel_rfl,
  i37 := by kernel_rfl,
  i46 := by kernel_rfl,
  i51 := by kernel_rfl,
  i53 := by kernel_rfl,
  i171 := by kernel_rfl,
  i173 := by kernel_rfl,
  i212 := by kernel_rfl,
  i232 := by kernel_rfl,
  i233 := by kernel_rfl,
  m17 := by kernel_rfl,
  m18 := by kernel_rfl,
  m19 := by kernel_rfl }
def TI (w : World) : Prop := Lib.TabIs Tryz.prog w "internal/strconv.uint64pow10" .u64 Lib.pow10Tab
theorem TI.ext {w w' : World} (h : TI w) (hb : Below w.heap.size w w') : TI w' := (Lib.tabBelow_of_tabIs h) w' hb
theorem below_grownM (w : World) (q : Nat) (os : Array Obj) : Below w.heap.size w (Go.Sort.grow (w.drewN q) os) :=
  ⟨rfl, rfl, rfl, by show w.heap.size ≤ (w.heap ++ os).size; rw [Array.size_append]; omega, fun _ hj => Go.Sort.heap_grow_old (w.drewN q) os hj⟩
theorem itoa_any (n : Int) (w : World) (hT : TI w) (h0 : 0 ≤ n) (h1 : n ≤ 253402300800) :
    Calls Tryz.prog 17 #[.int .i64 n] w fun e w' => e = .returned (.string (bstr (Lib.itoa n))) ∧ Below w.heap.size w w' := by
  refine (Any.strconv_Itoa shItoa n (by omega) (by omega) w hT).mono ?_
  rintro e w' ⟨rfl, k, os, rfl⟩
  exact ⟨rfl, below_grownM _ _ _⟩
def joinLays_ren : Go.Shelf.Ren := ⟨fun | 156 => 19 | 165 => 47 | 166 => 18 | 169 => 23 | 240 => 46 | 241 => 65 | 276 => 64 | 277 => 98 | n => n, fun | 0 => 0 | 3 => 3 | 4 => 4 | 5 => 5 | 9 => 9 | 20 => 20 | 31 => 57 | 37 => 47 | 70 => 46 | 72 => 49 | 75 => 52 | 76 => 53 | 80 => 60 | 127 => 82 | 164 => 98 | n => n, fun | n => n⟩
theorem joinLays : Lays.n156 Tryz.prog joinLays_ren := {
  mixed := by kernel_rfl,
  f156 := Tryz.func19.trans (congrArg some (by kernel_rfl)),
  f165 := Tryz.func47.trans (congrArg some (by kernel_rfl)),
  f166 := Tryz.func18.trans (congrArg some (by kernel_rfl)),
  f169 := Tryz.func23.trans (congrArg some (by kernel_rfl)),
  f240 := Tryz.func46.trans (congrArg some (by kernel_rfl)),
  f241 := Tryz.func65.trans (congrArg some (by kernel_rfl)),
  f276 := Tryz.func64.trans (congrArg some (by kernel_rfl)),
  f277 := Tryz.func98.trans (congrArg some (by kernel_rfl)),
  t0 := Tryz.underlying0,
  a0 := Tryz.isAgg0,
  z0 := Tryz.sizeOf0,
  v0 := Tryz.zeroValue0,
  t3 := Tryz.underlying3,
  a3 := Tryz.isAgg3,
  z3 := Tryz.sizeOf3,
  v3 := Tryz.zeroValue3,
  t4 := Tryz.underlying4,
  a4 := Tryz.isAgg4,
  z4 := Tryz.sizeOf4,
  v4 := Tryz.zeroValue4,
  t9 := Tryz.underlying9,
  a9 := Tryz.isAgg9,
  z9 := Tryz.sizeOf9,
  v9 := Tryz.zeroValue9,
  t20 := Tryz.underlying20,
  a20 := Tryz.isAgg20,
  z20 := Tryz.sizeOf20,
  v20 := Tryz.zeroValue20,
  t31 := Tryz.underlying57,
  a31 := Tryz.isAgg57,
  z31 := Tryz.sizeOf57,
  v31 := Tryz.zeroValue57,
  t37 := Tryz.underlying47,
  a37 := Tryz.isAgg47,
  z37 := Tryz.sizeOf47,
  v37 := Tryz.zeroValue47,
  t70 := Tryz.underlying46,
  a70 := Tryz.isAgg46,
  z70 := Tryz.sizeOf46,
  v70 := Tryz.zeroValue46,
  t72 := Tryz.underlying49,
  a72 := Tryz.isAgg49,
  z72 := Tryz.sizeOf49,
  v72 := Tryz.zeroValue49,
  t75 := Tryz.underlying52,
  a75 := Tryz.isAgg52,
  z75 := Tryz.sizeOf52,
  v75 := Tryz.zeroValue52,
  t76 := Tryz.underlying53,
  a76 := Tryz.isAgg53,
  z76 := Tryz.sizeOf53,
  v76 := Tryz.zeroValue53,
  t127 := Tryz.underlying82,
  a127 := Tryz.isAgg82,
  z127 := Tryz.sizeOf82,
  v127 := Tryz.zeroValue82,
  t164 := Tryz.underlying98,
  a164 := Tryz.isAgg98,
  z164 := Tryz.sizeOf98,
  v164 := Tryz.zeroValue98 }
theorem joinExtra : Builder.Extra Tryz.prog joinLays_ren := {
  sizeBuilder := by kernel_rfl,
  liesBuilder := by kernel_rfl,
  t5 := Tryz.underlying5,
  a5 := Tryz.isAgg5,
  z5 := Tryz.sizeOf5,
  v5 := Tryz.zeroValue5,
  infoByte := by kernel_rfl,
  cellsByte := by kernel_rfl,
  sizeByte := by kernel_rfl,
  neB5 := by decide }
def shLen_ren : Go.Shelf.Ren := ⟨fun | 170 => 22 | n => n, fun | 0 => 0 | 3 => 3 | 5 => 5 | 37 => 47 | 70 => 46 | 72 => 49 | n => n, fun | n => n⟩
theorem shLen : Lays.n170 Tryz.prog shLen_ren := {
  mixed := by kernel_rfl,
  f170 := Tryz.func22.trans (congrArg some (by kernel_rfl)),
  t0 := Tryz.underlying0,
  a0 := Tryz.isAgg0,
  z0 := Tryz.sizeOf0,
  v0 := Tryz.zeroValue0,
  t3 := Tryz.underlying3,
  a3 := Tryz.isAgg3,
  z3 := Tryz.sizeOf3,
  v3 := Tryz.zeroValue3,
  t37 := Tryz.underlying47,
  a37 := Tryz.isAgg47,
  z37 := Tryz.sizeOf47,
  v37 := Tryz.zeroValue47,
  t70 := Tryz.underlying46,
  a70 := Tryz.isAgg46,
  z70 := Tryz.sizeOf46,
  v70 := Tryz.zeroValue46,
  t72 := Tryz.underlying49,
  a72 := Tryz.isAgg49,
  z72 := Tryz.sizeOf49,
  v72 := Tryz.zeroValue49 }
set_option maxRecDepth 100000 in
set_option maxHeartbeats 1000000 in
theorem dash_any (b : List UInt8) (w : World) : Calls Tryz.prog 20 #[.string (bstr b)] w fun e w' => e = .returned (.string (bstr (dashS b))) ∧ w' = w := by
  by_cases h : b = []
  · have hd : dashS b = [45] := if_pos h
    rw [hd]
    have hem : (bstr b).toList.isEmpty = true := by rw [bstr_toList, h]; rfl
    clear hd h
    go_enter Tryz.func20, Tryz.ntmps20
    go_wp2_with fail
    go_ret
    exact ⟨rfl, rfl⟩
  · have hd : dashS b = b := if_neg h
    rw [hd]
    have hem : (bstr b).toList.isEmpty = false := by
      rw [bstr_toList]; cases hq : b with | nil => exact absurd hq h | cons _ _ => rfl
    clear hd h
    go_enter Tryz.func20, Tryz.ntmps20
    go_wp2_with fail
    go_ret
    exact ⟨rfl, rfl⟩
set_option maxRecDepth 100000 in
set_option maxHeartbeats 1000000 in
theorem or_any (b : List UInt8) (w : World) : Calls Tryz.prog 24 #[.string (bstr b)] w fun e w' => e = .returned (.string (bstr (dashS b))) ∧ w' = w := by
  by_cases h : b = []
  · have hd : dashS b = [45] := if_pos h
    rw [hd]
    have hem : (bstr b).toList.isEmpty = true := by rw [bstr_toList, h]; rfl
    clear hd h
    go_enter Tryz.func24, Tryz.ntmps24
    go_wp2_with fail
    go_ret
    exact ⟨rfl, rfl⟩
  · have hd : dashS b = b := if_neg h
    rw [hd]
    have hem : (bstr b).toList.isEmpty = false := by
      rw [bstr_toList]; cases hq : b with | nil => exact absurd hq h | cons _ _ => rfl
    clear hd h
    go_enter Tryz.func24, Tryz.ntmps24
    go_wp2_with fail
    go_ret
    exact ⟨rfl, rfl⟩

theorem joinW_any (kb c : Nat) (ws : List (List UInt8)) (w : World) (hc : ∀ j, j < ws.length → w.cell? ⟨kb, j, none⟩ = (ws.map fun x => Value.string (bstr x))[j]?) (hkb : kb < w.heap.size) (hN : ws.length ≤ 1000) (hcap : ws.length ≤ c) (hm : (Lib.join ws [32]).length ≤ 1000000) :
    Calls Tryz.prog 19 #[.slice (some ⟨kb, 0, none⟩) ws.length c, .string ⟨#[32]⟩] w fun e w' => e = .returned (.string (bstr (Lib.join ws [32]))) ∧ Below w.heap.size w w' := by
  have hmm : (ws.map bstr).map (·.data.toList) = ws := by rw [List.map_map]; exact (List.map_congr_left (fun x _ => rfl)).trans (List.map_id ws)
  have := Any.strings_Join joinLays joinExtra kb 0 c (ws.map bstr) ⟨#[32]⟩ w (fun j x hx => by
    obtain ⟨hj, hx⟩ := List.getElem?_eq_some_iff.1 hx
    rw [List.length_map] at hj
    rw [Nat.zero_add, hc j hj, List.getElem?_map, List.getElem?_eq_getElem hj]
    rw [List.getElem_map] at hx
    rw [← hx]; rfl) hkb (by rw [List.length_map]; omega) (by rw [List.length_map]; exact hcap) (by rw [hmm]; change (Lib.join ws [32]).length ≤ _; omega)
  rw [List.length_map, hmm] at this
  exact this
/-- A Builder at block b that holds t. -/
def BD (b : Nat) (t : List UInt8) (w : World) : Prop := Lib.IsBuilderF 49 5 b b (Lib.byteCells t) w
theorem BD.new (w : World) : BD w.heap.size [] (w.alloc (.cells #[.pointer none, .slice none 0 0] 49)) := Lib.IsBuilderF.of (Lib.fresh_isBuilder 49 5 w)
theorem ownF_blw {w w' : World} {B : Nat} {e : TypeId} {size n : Nat} {v : Value} {xs : List Value} (h : w.ownsRowF B e size v n xs) (hb : Below w.heap.size w w') : w'.ownsRowF B e size v n xs :=
  ⟨h.1, h.2.imp id (fun ⟨g, cap, cur, fz, hv, hB, hh, rest⟩ => ⟨g, cap, cur, fz, hv, hB, (hb.block g (Array.getElem?_eq_some_iff.1 hh).1).trans hh, rest⟩)⟩
theorem BD.ext {b : Nat} {t : List UInt8} {w w' : World} (h : BD b t w) (hb : Below w.heap.size w w') : BD b t w' := by
  have key : ∀ p, Lib.BuilderAtF 49 5 b b p (Lib.byteCells t) w → Lib.BuilderAtF 49 5 b b p (Lib.byteCells t) w' := fun p ⟨h0, v, h1, h2, h3⟩ =>
    ⟨h0, v, (hb.block b (Array.getElem?_eq_some_iff.1 h1).1).trans h1, ownF_blw h2 hb, h3⟩
  rcases h with h | h
  · exact .inl (key _ h)
  · exact .inr (key _ h)
theorem BD.lt {b : Nat} {t : List UInt8} {w : World} (h : BD b t w) : b < w.heap.size := by
  rcases h with ⟨_, v, h1, _⟩ | ⟨_, v, h1, _⟩ <;> exact (Array.getElem?_eq_some_iff.1 h1).1
theorem kept_blk {w w' : World} {b g : Nat} {t : TypeId} {cs : List Value} (h : Lib.OthersKept 5 (some b) w w') (hk : Blk w g t cs) (hne : g ≠ b) (ht : t ≠ 5) : Blk w' g t cs :=
  h g _ hk (fun e => hne (by injection e)) (fun c fz e => ht (by injection e))
set_option maxRecDepth 100000 in
theorem write_any (b : Nat) (t s : List UInt8) (w : World) (h : BD b t w) (hl : t.length + s.length ≤ 1000000) :
    Calls Tryz.prog 18 #[.pointer (some ⟨b, 0, none⟩), .string (bstr s)] w fun e w' => e = .returned (.tuple #[.int .i64 (s.length : Int), .nilIface]) ∧ BD b (t ++ s) w' ∧ Below b w w' ∧ Lib.OthersKept 5 (some b) w w' := by
  refine (Any.Builder_WriteString_k { joinLays with } joinExtra b b (Lib.byteCells t) (bstr s) w h (by rw [Lib.byteCells_length, bstr_size]; omega) (Nat.le_of_lt h.lt)).mono ?_
  rintro e w' ⟨rfl, h1, h2, h3⟩
  refine ⟨rfl, .inr ?_, h2, h3⟩
  have e : Lib.byteCells (t ++ s) = Lib.byteCells t ++ Lib.strCells (bstr s) := by
    unfold Lib.byteCells Lib.strCells
    rw [List.map_append]
    rfl
  rw [e]
  exact h1
set_option maxRecDepth 100000 in
theorem blen_any (b : Nat) (t : List UInt8) (w : World) (h : BD b t w) :
    Calls Tryz.prog 22 #[.pointer (some ⟨b, 0, none⟩)] w fun e w' => e = .returned (.int .i64 (t.length : Int)) ∧ w' = w := by
  have := Any.Builder_Len_f shLen b b (Lib.byteCells t) w h
  rw [Lib.byteCells_length] at this
  exact this
set_option maxRecDepth 100000 in
theorem bstring_any (b : Nat) (t : List UInt8) (w : World) (h : BD b t w) :
    Calls Tryz.prog 23 #[.pointer (some ⟨b, 0, none⟩)] w fun e w' => e = .returned (.string (bstr t)) ∧ Below b w w' := by
  cases t with
  | nil =>
    refine (Any.Builder_String_empty_k { joinLays with } joinExtra b b w h (Nat.le_of_lt h.lt)).mono ?_
    rintro e w' ⟨rfl, _, hb, _⟩
    exact ⟨rfl, hb⟩
  | cons c r =>
    refine (Any.Builder_String_k { joinLays with } joinExtra b b (c :: r) w h (by simp)).mono ?_
    rintro e w' ⟨rfl, _, hb, _⟩
    exact ⟨rfl, hb⟩
end Go.Proofs.YtgilcllfdgdofaaGreatDoor
