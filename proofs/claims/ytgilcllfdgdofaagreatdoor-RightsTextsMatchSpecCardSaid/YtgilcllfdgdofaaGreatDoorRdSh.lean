/-
  strings.Cut, strings.Split at a space, strings.ContainsFunc, slices.Index at strings, strconv.Atoi: the library's contracts at this program.
-/
import Derived.Test.YtgilcllfdgdofaaGreatDoorRdP
import Derived.Test.YtgilcllfdgdofaaGreatDoorSplit
import Derived.Shelf.Strings.Cut
import Derived.Shelf.Small.Wraps
import Derived.Shelf.Strconv.Atoi
import Derived.Lib.AtoiErrMem
import Derived.Shelf.Slices.Turned
import Derived.Shelf.Strings.FuncGrows
import Derived.Lib.DecodeN
namespace Go.Proofs.YtgilcllfdgdofaaGreatDoor
open Go.RowKit Go.Shelf
set_option linter.unusedVariables false
set_option linter.unusedSimpArgs false

def shCut_ren : Go.Shelf.Ren := ⟨fun | 145 => 11 | 217 => 69 | 219 => 49 | 220 => 26 | 224 => 71 | 225 => 70 | 266 => 102 | 267 => 72 | 314 => 103 | n => n, fun | 3 => 3 | 4 => 4 | 5 => 5 | 9 => 9 | 46 => 103 | 51 => 133 | 59 => 34 | 146 => 134 | n => n, fun | 1 => 0 | n => n⟩
theorem shCut : Lays.n145 Tryz.prog shCut_ren := {
  mixed := by kernel_rfl,
  f145 := Tryz.func11.trans (congrArg some (by kernel_rfl)),
  f217 := Tryz.func69.trans (congrArg some (by kernel_rfl)),
  f219 := Tryz.func49.trans (congrArg some (by kernel_rfl)),
  f220 := Tryz.func26.trans (congrArg some (by kernel_rfl)),
  f224 := Tryz.func71.trans (congrArg some (by kernel_rfl)),
  f225 := Tryz.func70.trans (congrArg some (by kernel_rfl)),
  f266 := Tryz.func102.trans (congrArg some (by kernel_rfl)),
  f267 := Tryz.func72.trans (congrArg some (by kernel_rfl)),
  f314 := Tryz.func103.trans (congrArg some (by kernel_rfl)),
  t3 := Tryz.underlying3,
  a3 := Tryz.isAgg3,
  z3 := Tryz.sizeOf3,
  v3 := Tryz.zeroValue3,
  t4 := Tryz.underlying4,
  a4 := Tryz.isAgg4,
  z4 := Tryz.sizeOf4,
  v4 := Tryz.zeroValue4,
  t5 := Tryz.underlying5,
  a5 := Tryz.isAgg5,
  z5 := Tryz.sizeOf5,
  v5 := Tryz.zeroValue5,
  t9 := Tryz.underlying9,
  a9 := Tryz.isAgg9,
  z9 := Tryz.sizeOf9,
  v9 := Tryz.zeroValue9,
  t46 := Tryz.underlying103,
  a46 := Tryz.isAgg103,
  z46 := Tryz.sizeOf103,
  v46 := Tryz.zeroValue103,
  t51 := Tryz.underlying133,
  a51 := Tryz.isAgg133,
  z51 := Tryz.sizeOf133,
  v51 := Tryz.zeroValue133,
  t59 := Tryz.underlying34,
  a59 := Tryz.isAgg34,
  z59 := Tryz.sizeOf34,
  v59 := Tryz.zeroValue34,
  t146 := Tryz.underlying134,
  a146 := Tryz.isAgg134,
  z146 := Tryz.sizeOf134,
  v146 := Tryz.zeroValue134,
  g1 := by kernel_rfl }
def shAtoi_ren : Go.Shelf.Ren := ⟨fun | 129 => 123 | 171 => 17 | 172 => 30 | 205 => 109 | 243 => 45 | 244 => 52 | 245 => 53 | 246 => 63 | 247 => 81 | 279 => 82 | 280 => 83 | 281 => 84 | 282 => 85 | 283 => 94 | 284 => 95 | 285 => 96 | 286 => 97 | 287 => 107 | 316 => 108 | 317 => 122 | 318 => 124 | 319 => 125 | 320 => 126 | 321 => 130 | 322 => 131 | 337 => 136 | 338 => 137 | n => n, fun | 0 => 0 | 2 => 2 | 3 => 3 | 4 => 4 | 5 => 5 | 9 => 9 | 20 => 20 | 21 => 21 | 37 => 47 | 46 => 103 | 51 => 133 | 53 => 124 | 75 => 52 | 76 => 53 | 80 => 60 | 85 => 113 | 127 => 82 | 143 => 157 | 145 => 159 | 167 => 112 | 168 => 115 | 171 => 123 | 173 => 127 | 175 => 138 | 210 => 141 | 212 => 152 | 213 => 153 | 232 => 167 | 233 => 168 | n => n, fun | 15 => 1 | 16 => 2 | 17 => 3 | 18 => 6 | 19 => 7 | n => n⟩
theorem shAtoi : Lays.n172 Tryz.prog shAtoi_ren := {
  mixed := by kernel_rfl,
  f129 := Tryz.func123.trans (congrArg some (by kernel_rfl)),
  f171 := Tryz.func17.trans (congrArg some (by kernel_rfl)),
  f172 := Tryz.func30.trans (congrArg some (by kernel_rfl)),
  f205 := Tryz.func109.trans (congrArg some (by kernel_rfl)),
  f243 := Tryz.func45.trans (congrArg some (by kernel_rfl)),
  f244 := Tryz.func52.trans (congrArg some (by kernel_rfl)),
  f245 := Tryz.func53.trans (congrArg some (by kernel_rfl)),
  f246 := Tryz.func63.trans (congrArg some (by kernel_rfl)),
  f247 := Tryz.func81.trans (congrArg some (by kernel_rfl)),
  f279 := Tryz.func82.trans (congrArg some (by kernel_rfl)),
  f280 := Tryz.func83.trans (congrArg some (by kernel_rfl)),
  f281 := Tryz.func84.trans (congrArg some (by kernel_rfl)),
  f282 := Tryz.func85.trans (congrArg some (by kernel_rfl)),
  f283 := Tryz.func94.trans (congrArg some (by kernel_rfl)),
  f284 := Tryz.func95.trans (congrArg some (by kernel_rfl)),
  f285 := Tryz.func96.trans (congrArg some (by kernel_rfl)),
  f286 := Tryz.func97.trans (congrArg some (by kernel_rfl)),
  f287 := Tryz.func107.trans (congrArg some (by kernel_rfl)),
  f316 := Tryz.func108.trans (congrArg some (by kernel_rfl)),
  f317 := Tryz.func122.trans (congrArg some (by kernel_rfl)),
  f318 := Tryz.func124.trans (congrArg some (by kernel_rfl)),
  f319 := Tryz.func125.trans (congrArg some (by kernel_rfl)),
  f320 := Tryz.func126.trans (congrArg some (by kernel_rfl)),
  f321 := Tryz.func130.trans (congrArg some (by kernel_rfl)),
  f322 := Tryz.func131.trans (congrArg some (by kernel_rfl)),
  f337 := Tryz.func136.trans (congrArg some (by kernel_rfl)),
  f338 := Tryz.func137.trans (congrArg some (by kernel_rfl)),
  t0 := Tryz.underlying0,
  a0 := Tryz.isAgg0,
  z0 := Tryz.sizeOf0,
  v0 := Tryz.zeroValue0,
  t2 := Tryz.underlying2,
  a2 := Tryz.isAgg2,
  z2 := Tryz.sizeOf2,
  v2 := Tryz.zeroValue2,
  t3 := Tryz.underlying3,
  a3 := Tryz.isAgg3,
  z3 := Tryz.sizeOf3,
  v3 := Tryz.zeroValue3,
  t4 := Tryz.underlying4,
  a4 := Tryz.isAgg4,
  z4 := Tryz.sizeOf4,
  v4 := Tryz.zeroValue4,
  t5 := Tryz.underlying5,
  a5 := Tryz.isAgg5,
  z5 := Tryz.sizeOf5,
  v5 := Tryz.zeroValue5,
  t9 := Tryz.underlying9,
  a9 := Tryz.isAgg9,
  z9 := Tryz.sizeOf9,
  v9 := Tryz.zeroValue9,
  t20 := Tryz.underlying20,
  a20 := Tryz.isAgg20,
  z20 := Tryz.sizeOf20,
  v20 := Tryz.zeroValue20,
  t21 := Tryz.underlying21,
  a21 := Tryz.isAgg21,
  z21 := Tryz.sizeOf21,
  v21 := Tryz.zeroValue21,
  t37 := Tryz.underlying47,
  a37 := Tryz.isAgg47,
  z37 := Tryz.sizeOf47,
  v37 := Tryz.zeroValue47,
  t46 := Tryz.underlying103,
  a46 := Tryz.isAgg103,
  z46 := Tryz.sizeOf103,
  v46 := Tryz.zeroValue103,
  t51 := Tryz.underlying133,
  a51 := Tryz.isAgg133,
  z51 := Tryz.sizeOf133,
  v51 := Tryz.zeroValue133,
  t53 := Tryz.underlying124,
  a53 := Tryz.isAgg124,
  z53 := Tryz.sizeOf124,
  v53 := Tryz.zeroValue124,
  t75 := Tryz.underlying52,
  a75 := Tryz.isAgg52,
  z75 := Tryz.sizeOf52,
  v75 := Tryz.zeroValue52,
  t76 := Tryz.underlying53,
  a76 := Tryz.isAgg53,
  z76 := Tryz.sizeOf53,
  v76 := Tryz.zeroValue53,
  t85 := Tryz.underlying113,
  a85 := Tryz.isAgg113,
  z85 := Tryz.sizeOf113,
  v85 := Tryz.zeroValue113,
  t127 := Tryz.underlying82,
  a127 := Tryz.isAgg82,
  z127 := Tryz.sizeOf82,
  v127 := Tryz.zeroValue82,
  t143 := Tryz.underlying157,
  a143 := Tryz.isAgg157,
  z143 := Tryz.sizeOf157,
  v143 := Tryz.zeroValue157,
  t145 := Tryz.underlying159,
  a145 := Tryz.isAgg159,
  z145 := Tryz.sizeOf159,
  v145 := Tryz.zeroValue159,
  t167 := Tryz.underlying112,
  a167 := Tryz.isAgg112,
  z167 := Tryz.sizeOf112,
  v167 := Tryz.zeroValue112,
  t168 := Tryz.underlying115,
  a168 := Tryz.isAgg115,
  z168 := Tryz.sizeOf115,
  v168 := Tryz.zeroValue115,
  t171 := Tryz.underlying123,
  a171 := Tryz.isAgg123,
  z171 := Tryz.sizeOf123,
  v171 := Tryz.zeroValue123,
  t173 := Tryz.underlying127,
  a173 := Tryz.isAgg127,
  z173 := Tryz.sizeOf127,
  v173 := Tryz.zeroValue127,
  t175 := Tryz.underlying138,
  a175 := Tryz.isAgg138,
  z175 := Tryz.sizeOf138,
  v175 := Tryz.zeroValue138,
  t210 := Tryz.underlying141,
  a210 := Tryz.isAgg141,
  z210 := Tryz.sizeOf141,
  v210 := Tryz.zeroValue141,
  t212 := Tryz.underlying152,
  a212 := Tryz.isAgg152,
  z212 := Tryz.sizeOf152,
  v212 := Tryz.zeroValue152,
  t213 := Tryz.underlying153,
  a213 := Tryz.isAgg153,
  z213 := Tryz.sizeOf153,
  t232 := Tryz.underlying167,
  a232 := Tryz.isAgg167,
  z232 := Tryz.sizeOf167,
  v232 := Tryz.zeroValue167,
  t233 := Tryz.underlying168,
  a233 := Tryz.isAgg168,
  z233 := Tryz.sizeOf168,
  v233 := Tryz.zeroValue168,
  g15 := by kernel_rfl,
  g16 := by kernel_rfl,
  g17 := by kernel_rfl,
  g18 := by kernel_rfl,
  g19 := by kernel_rfl }
def shIdxS_ren : Go.Shelf.Ren := ⟨fun | 109 => 32 | n => n, fun | 0 => 0 | 3 => 3 | 4 => 4 | 9 => 9 | 31 => 57 | n => n, fun | n => n⟩
theorem shIdxS : Lays.n109 Tryz.prog shIdxS_ren := {
  mixed := by kernel_rfl,
  f109 := Tryz.func32.trans (congrArg some (by kernel_rfl)),
  t0 := Tryz.underlying0,
  a0 := Tryz.isAgg0,
  z0 := Tryz.sizeOf0,
  v0 := Tryz.zeroValue0,
  t3 := Tryz.underlying3,
  a3 := Tryz.isAgg3,
  z3 := Tryz.sizeOf3,
  v3 := Tryz.zeroValue3,
  t4 := Tryz.underlying4,
  a4 := Tryz.isAgg4,
  z4 := Tryz.sizeOf4,
  v4 := Tryz.zeroValue4,
  t9 := Tryz.underlying9,
  a9 := Tryz.isAgg9,
  z9 := Tryz.sizeOf9,
  v9 := Tryz.zeroValue9,
  t31 := Tryz.underlying57,
  a31 := Tryz.isAgg57,
  z31 := Tryz.sizeOf57,
  v31 := Tryz.zeroValue57 }
def shCont_ren : Go.Shelf.Ren := ⟨fun | 15 => 50 | 17 => 27 | 20 => 73 | n => n, fun | 0 => 0 | 3 => 3 | 4 => 4 | 9 => 9 | 21 => 21 | 23 => 64 | n => n, fun | n => n⟩
theorem shCont : LaysGw.n17 Tryz.prog shCont_ren := {
  mixed := by kernel_rfl,
  f15 := Tryz.func50.trans (congrArg some (by kernel_rfl)),
  f17 := Tryz.func27.trans (congrArg some (by kernel_rfl)),
  f20 := Tryz.func73.trans (congrArg some (by kernel_rfl)),
  t0 := Tryz.underlying0,
  a0 := Tryz.isAgg0,
  z0 := Tryz.sizeOf0,
  v0 := Tryz.zeroValue0,
  i0 := by kernel_rfl,
  t3 := Tryz.underlying3,
  a3 := Tryz.isAgg3,
  z3 := Tryz.sizeOf3,
  v3 := Tryz.zeroValue3,
  i3 := by kernel_rfl,
  t4 := Tryz.underlying4,
  a4 := Tryz.isAgg4,
  z4 := Tryz.sizeOf4,
  v4 := Tryz.zeroValue4,
  i4 := by kernel_rfl,
  t9 := Tryz.underlying9,
  a9 := Tryz.isAgg9,
  z9 := Tryz.sizeOf9,
  v9 := Tryz.zeroValue9,
  i9 := by kernel_rfl,
  t21 := Tryz.underlying21,
  a21 := Tryz.isAgg21,
  z21 := Tryz.sizeOf21,
  v21 := Tryz.zeroValue21,
  i21 := by kernel_rfl,
  t23 := Tryz.underlying64,
  a23 := Tryz.isAgg64,
  z23 := Tryz.sizeOf64,
  v23 := Tryz.zeroValue64,
  i23 := by kernel_rfl }
theorem string_infoR : (Tryz.prog.info? 9).map (fun i => (i.zero, i.size, i.bytes)) = some (some (.string ⟨#[]⟩), 1, 16) := by kernel_rfl
theorem cut_any (t : List UInt8) (w : World) (hG : GInt w) (ht : t.length ≤ 10000000) :
    Calls Tryz.prog 11 #[.string (bstr t), .string ⟨#[10]⟩] w fun e w' => e = .returned (.tuple #[.string (bstr (Lib.cut t [10]).1), .string (bstr (Lib.cut t [10]).2.1), .bool (Lib.cut t [10]).2.2]) ∧ ∃ n, w' = w.drewN n := by
  obtain ⟨m, hm⟩ := hG
  exact Any.strings_Cut shCut (bstr t) ⟨#[10]⟩ m w (by rw [bstr_size]; omega) hm
theorem sp_data (t : List UInt8) : (Lib.splitB ⟨#[32]⟩ 0 (Lib.countB (bstr t) ⟨#[32]⟩) (bstr t)) = (sg t).map bstr := by
  have h := Lib.splitB_data ⟨#[32]⟩ 0 (Lib.countB (bstr t) ⟨#[32]⟩) (bstr t)
  have e : (sg t) = (Lib.splitB ⟨#[32]⟩ 0 (Lib.countB (bstr t) ⟨#[32]⟩) (bstr t)).map (·.data.toList) := h.symm
  rw [e, List.map_map]
  exact (List.map_id'' (fun x => bstr_eq x) _).symm
theorem splitSp_any (t : List UInt8) (w : World) (hG : GInt w) (ht : t.length ≤ 10000000) :
    Calls Tryz.prog 25 #[.string (bstr t), .string ⟨#[32]⟩] w fun e w' => e = .returned (.slice (some ⟨w.heap.size, 0, none⟩) (sg t).length (sg t).length) ∧ w' = w.alloc (.cells ((sg t).map fun x => Value.string (bstr x)).toArray 9) := by
  obtain ⟨m, hm⟩ := hG
  have hl : (sg t).length = Lib.countB (bstr t) ⟨#[32]⟩ + 1 := by
    have := Lib.splitB_all ⟨#[32]⟩ (by decide) 0 _ (bstr t) rfl
    rw [sp_data, List.length_map] at this
    exact this
  have h := Any.strings_Split splitLays string_infoR (bstr t) ⟨#[32]⟩ m w (by rw [bstr_size]; omega) hm (by decide)
  refine h.mono ?_
  rintro e w' ⟨rfl, hw⟩
  refine ⟨by rw [hl], ?_⟩
  rw [hw, sp_data, List.map_map]
  rfl
theorem atoi_any (b : List UInt8) (w : World) (hb : numB b = true) :
    Calls Tryz.prog 30 #[.string (bstr b)] w fun e w' => e = .returned (.tuple #[.int .i64 (numV b), .nilIface]) ∧ Below w.heap.size w w' := by
  have hl : b.length ≤ 12 := by
    unfold numB at hb
    rw [Bool.and_eq_true, Bool.and_eq_true, decide_eq_true_iff, decide_eq_true_iff] at hb
    exact hb.1.2
  refine (Any.strconv_Atoi shAtoi (bstr b) (numV b) (by rw [bstr_size]; omega) (num_val hb).1 w).mono ?_
  rintro e w' ⟨rfl, t, rfl⟩
  exact ⟨rfl, Lib.bytesWorld_below _ _ _⟩

/-! ### Runes -/
def badR (x : Nat) : Bool := decide (x < 33) || decide (126 < x)
theorem dec_high (n b0 b1 b2 b3 : Nat) (h : 128 ≤ b0) : 128 ≤ (Lib.decodeN n b0 b1 b2 b3).1 := by
  unfold Lib.decodeN
  rw [if_neg (by omega)]
  repeat' split
  all_goals (dsimp only; omega)
theorem dec_low (n b0 b1 b2 b3 : Nat) (h : b0 < 128) : Lib.decodeN n b0 b1 b2 b3 = (b0, 1) := by unfold Lib.decodeN; rw [if_pos h]
theorem idx_rune (s : ByteArray) : ∀ (f pos : Nat), s.size ≤ pos + f → (0 ≤ Lib.idxFuncFrom badR true s f pos ↔ ∃ i, pos ≤ i ∧ i < s.size ∧ rowByte (s.get! i) = false)
  | 0, pos, h => by
    unfold Lib.idxFuncFrom
    constructor
    · intro h; exact absurd h (by decide)
    · rintro ⟨i, h1, h2, _⟩; omega
  | f + 1, pos, h => by
    unfold Lib.idxFuncFrom
    by_cases hp : pos < s.size
    · rw [if_pos hp, Lib.decode_at]
      by_cases hb : (s.get! pos).toNat < 128
      · rw [dec_low _ _ _ _ _ hb]
        dsimp only
        have hrow : rowByte (s.get! pos) = !badR (s.get! pos).toNat := by
          unfold rowByte badR
          rw [Bool.eq_iff_iff]
          simp
        by_cases hr : badR (s.get! pos).toNat = true
        · rw [if_pos hr]
          constructor
          · intro _; exact ⟨pos, Nat.le_refl _, hp, by rw [hrow, hr]; rfl⟩
          · intro _; omega
        · rw [if_neg hr, idx_rune s f (pos + 1) (by omega)]
          constructor
          · rintro ⟨i, h1, h2, h3⟩; exact ⟨i, by omega, h2, h3⟩
          · rintro ⟨i, h1, h2, h3⟩
            by_cases e : i = pos
            · rw [e, hrow] at h3
              exact absurd (by simpa using h3) hr
            · exact ⟨i, by omega, h2, h3⟩
      · have h128 := dec_high (s.size - pos) (s.get! pos).toNat (s.get! (pos + 1)).toNat (s.get! (pos + 2)).toNat (s.get! (pos + 3)).toNat (by omega)
        have hr : badR (Lib.decodeN (s.size - pos) (s.get! pos).toNat (s.get! (pos + 1)).toNat (s.get! (pos + 2)).toNat (s.get! (pos + 3)).toNat).1 = true := by
          unfold badR
          rw [Bool.or_eq_true, decide_eq_true_iff, decide_eq_true_iff]
          omega
        rw [if_pos hr]
        constructor
        · intro _
          refine ⟨pos, Nat.le_refl _, hp, ?_⟩
          unfold rowByte
          rw [Bool.and_eq_false_iff, decide_eq_false_iff_not, decide_eq_false_iff_not]
          omega
        · intro _; omega
    · rw [if_neg hp]
      constructor
      · intro h; exact absurd h (by decide)
      · rintro ⟨i, h1, h2, _⟩; omega
theorem idx_row (t : List UInt8) : decide (0 ≤ Lib.idxFunc badR true (bstr t)) = !(t.all rowByte) := by
  have h := idx_rune (bstr t) (bstr t).size 0 (by omega)
  have e : (0 ≤ Lib.idxFunc badR true (bstr t)) ↔ t.all rowByte = false := by
    unfold Lib.idxFunc
    rw [h, List.all_eq_false]
    constructor
    · rintro ⟨i, _, hi, hr⟩
      rw [bstr_size] at hi
      refine ⟨t[i], List.getElem_mem _, ?_⟩
      have : (bstr t).get! i = t[i] := by
        show (bstr t).data[i]! = _
        rw [getElem!_pos (bstr t).data i hi]; rfl
      rw [this] at hr; rw [hr]; decide
    · rintro ⟨x, hx, hr⟩
      obtain ⟨i, hi, rfl⟩ := List.getElem_of_mem hx
      refine ⟨i, Nat.zero_le _, by rw [bstr_size]; exact hi, ?_⟩
      have : (bstr t).get! i = t[i] := by
        show (bstr t).data[i]! = _
        rw [getElem!_pos (bstr t).data i hi]; rfl
      rw [this]; simpa using hr
  cases ha : t.all rowByte with
  | true => rw [ha] at e; exact decide_eq_false (fun h => absurd (e.1 h) (by decide))
  | false => rw [ha] at e; exact decide_eq_true (e.2 rfl)
set_option maxRecDepth 100000 in
set_option maxHeartbeats 1000000 in
theorem runeFn_any (x : Nat) (hx : x ≤ 1114111) (w : World) : Calls Tryz.prog 28 #[encR x] w fun e w' => e = .returned (.bool (badR x)) ∧ w' = w := by
  show Calls Tryz.prog 28 #[.int .i32 (x : Int)] w _
  by_cases h1 : x < 33
  · have h1' : (x : Int) < 33 := by omega
    have hb : badR x = true := by unfold badR; rw [decide_eq_true h1]; rfl
    rw [hb]
    go_enter Tryz.func28, Tryz.ntmps28
    go_wp2_with fail
    go_ret
    exact ⟨rfl, rfl⟩
  have h1' : ¬ (x : Int) < 33 := by omega
  by_cases h2 : 126 < x
  · have h2' : (126 : Int) < (x : Int) := by omega
    have hb : badR x = true := by unfold badR; rw [decide_eq_true h2, Bool.or_true]
    rw [hb]
    go_enter Tryz.func28, Tryz.ntmps28
    go_wp2_with fail
    go_ret
    exact ⟨rfl, rfl⟩
  have h2' : ¬ (126 : Int) < (x : Int) := by omega
  have hb : badR x = false := by unfold badR; rw [decide_eq_false h1, decide_eq_false h2]; rfl
  rw [hb]
  go_enter Tryz.func28, Tryz.ntmps28
  go_wp2_with fail
  go_ret
  exact ⟨rfl, rfl⟩
set_option maxRecDepth 100000 in
theorem containsFn_any (t : List UInt8) (w : World) :
    Calls Tryz.prog 27 #[.string (bstr t), .func (.func 28) #[] #[]] w fun e w' => e = .returned (.bool (!(t.all rowByte))) ∧ Below w.heap.size w w' := by
  have h := Any.strings_ContainsFunc_grows shCont 28 #[] (enters_of Tryz.func28 (by kernel_rfl) rfl) badR (bstr t) w (fun W x hx _ => by
    refine (runeFn_any x hx W).mono ?_
    rintro e w' ⟨rfl, rfl⟩
    exact ⟨rfl, Below.refl _ _⟩)
  rw [idx_row] at h
  exact h
end Go.Proofs.YtgilcllfdgdofaaGreatDoor
