/-
  strings.Cut, strings.CutPrefix, strings.Split at a space, strings.LastIndex, strconv.Atoi: the library's contracts at this program.
-/
import Derived.Test.YtgfacedfndcgdaaGreatDoorManP
import Derived.Test.YtgfacedfndcgdaaGreatDoorRefPath
import Derived.Shelf.Strings.Cut
import Derived.Shelf.Small.Wraps
import Derived.Shelf.Strings.LastIndexAll
import Derived.Shelf.Strconv.Atoi
import Derived.Lib.AtoiErrMem
namespace Go.Proofs.YtgfacedfndcgdaaGreatDoor
open Go.RowKit Go.Shelf
set_option linter.unusedVariables false
set_option linter.unusedSimpArgs false

def shCut_ren : Go.Shelf.Ren := ⟨fun | 145 => 18 | 217 => 76 | 219 => 57 | 220 => 36 | 224 => 78 | 225 => 77 | 266 => 97 | 267 => 79 | 314 => 98 | n => n, fun | 3 => 3 | 4 => 4 | 5 => 5 | 9 => 9 | 46 => 102 | 51 => 94 | 59 => 41 | 146 => 95 | n => n, fun | 1 => 0 | n => n⟩
theorem shCut : Lays.n145 Tryz.prog shCut_ren := {
  mixed := by kernel_rfl,
  f145 := Tryz.func18.trans (congrArg some (by kernel_rfl)),
  f217 := Tryz.func76.trans (congrArg some (by kernel_rfl)),
  f219 := Tryz.func57.trans (congrArg some (by kernel_rfl)),
  f220 := Tryz.func36.trans (congrArg some (by kernel_rfl)),
  f224 := Tryz.func78.trans (congrArg some (by kernel_rfl)),
  f225 := Tryz.func77.trans (congrArg some (by kernel_rfl)),
  f266 := Tryz.func97.trans (congrArg some (by kernel_rfl)),
  f267 := Tryz.func79.trans (congrArg some (by kernel_rfl)),
  f314 := Tryz.func98.trans (congrArg some (by kernel_rfl)),
  t3 := Tryz.underlying3,
  a3 := Tryz.isAgg3,
  z3 := Tryz.sizeOf3,
  v3 := Tryz.zeroValue3,
  t4 := Tryz.underlying4,
  a4 := Tryz.isAgg4,
  z4 := Tryz.sizeOf4,
  v4 := Tryz.zeroValue4,
  t5 := Tryz.underlying5,
  a5 := Tryz.isAgg5,
  z5 := Tryz.sizeOf5,
  v5 := Tryz.zeroValue5,
  t9 := Tryz.underlying9,
  a9 := Tryz.isAgg9,
  z9 := Tryz.sizeOf9,
  v9 := Tryz.zeroValue9,
  t46 := Tryz.underlying102,
  a46 := Tryz.isAgg102,
  z46 := Tryz.sizeOf102,
  v46 := Tryz.zeroValue102,
  t51 := Tryz.underlying94,
  a51 := Tryz.isAgg94,
  z51 := Tryz.sizeOf94,
  v51 := Tryz.zeroValue94,
  t59 := Tryz.underlying41,
  a59 := Tryz.isAgg41,
  z59 := Tryz.sizeOf41,
  v59 := Tryz.zeroValue41,
  t146 := Tryz.underlying95,
  a146 := Tryz.isAgg95,
  z146 := Tryz.sizeOf95,
  v146 := Tryz.zeroValue95,
  g1 := by kernel_rfl }
def shCutP_ren : Go.Shelf.Ren := ⟨fun | 103 => 19 | 206 => 58 | 210 => 37 | n => n, fun | 3 => 3 | 4 => 4 | 9 => 9 | 24 => 43 | n => n, fun | n => n⟩
theorem shCutP : Lays.n103 Tryz.prog shCutP_ren := {
  mixed := by kernel_rfl,
  f103 := Tryz.func19.trans (congrArg some (by kernel_rfl)),
  f206 := Tryz.func58.trans (congrArg some (by kernel_rfl)),
  f210 := Tryz.func37.trans (congrArg some (by kernel_rfl)),
  t3 := Tryz.underlying3,
  a3 := Tryz.isAgg3,
  z3 := Tryz.sizeOf3,
  v3 := Tryz.zeroValue3,
  t4 := Tryz.underlying4,
  a4 := Tryz.isAgg4,
  z4 := Tryz.sizeOf4,
  v4 := Tryz.zeroValue4,
  t9 := Tryz.underlying9,
  a9 := Tryz.isAgg9,
  z9 := Tryz.sizeOf9,
  v9 := Tryz.zeroValue9,
  t24 := Tryz.underlying43,
  a24 := Tryz.isAgg43,
  z24 := Tryz.sizeOf43,
  v24 := Tryz.zeroValue43 }
def shLast_ren : Go.Shelf.Ren := ⟨fun | 148 => 24 | 222 => 44 | 223 => 45 | 269 => 70 | n => n, fun | 3 => 3 | 4 => 4 | 5 => 5 | 9 => 9 | 46 => 102 | 51 => 94 | 146 => 95 | n => n, fun | n => n⟩
theorem shLast : Lays.n148 Tryz.prog shLast_ren := {
  mixed := by kernel_rfl,
  f148 := Tryz.func24.trans (congrArg some (by kernel_rfl)),
  f222 := Tryz.func44.trans (congrArg some (by kernel_rfl)),
  f223 := Tryz.func45.trans (congrArg some (by kernel_rfl)),
  f269 := Tryz.func70.trans (congrArg some (by kernel_rfl)),
  t3 := Tryz.underlying3,
  a3 := Tryz.isAgg3,
  z3 := Tryz.sizeOf3,
  v3 := Tryz.zeroValue3,
  t4 := Tryz.underlying4,
  a4 := Tryz.isAgg4,
  z4 := Tryz.sizeOf4,
  v4 := Tryz.zeroValue4,
  t5 := Tryz.underlying5,
  a5 := Tryz.isAgg5,
  z5 := Tryz.sizeOf5,
  v5 := Tryz.zeroValue5,
  t9 := Tryz.underlying9,
  a9 := Tryz.isAgg9,
  z9 := Tryz.sizeOf9,
  v9 := Tryz.zeroValue9,
  t46 := Tryz.underlying102,
  a46 := Tryz.isAgg102,
  z46 := Tryz.sizeOf102,
  v46 := Tryz.zeroValue102,
  t51 := Tryz.underlying94,
  a51 := Tryz.isAgg94,
  z51 := Tryz.sizeOf94,
  v51 := Tryz.zeroValue94,
  t146 := Tryz.underlying95,
  a146 := Tryz.isAgg95,
  z146 := Tryz.sizeOf95,
  v146 := Tryz.zeroValue95 }
def shAtoi_ren : Go.Shelf.Ren := ⟨fun | 129 => 93 | 171 => 12 | 172 => 41 | 205 => 106 | 243 => 29 | 244 => 67 | 245 => 68 | 246 => 46 | 247 => 87 | 279 => 88 | 280 => 89 | 281 => 90 | 282 => 91 | 283 => 71 | 284 => 72 | 285 => 73 | 286 => 74 | 287 => 104 | 316 => 105 | 317 => 92 | 318 => 94 | 319 => 95 | 320 => 96 | 321 => 111 | 322 => 112 | 337 => 107 | 338 => 108 | n => n, fun | 0 => 0 | 2 => 2 | 3 => 3 | 4 => 4 | 5 => 5 | 9 => 9 | 20 => 20 | 21 => 21 | 37 => 54 | 46 => 102 | 51 => 94 | 53 => 75 | 75 => 65 | 76 => 66 | 80 => 140 | 85 => 110 | 127 => 134 | 143 => 135 | 145 => 137 | 167 => 109 | 168 => 112 | 171 => 97 | 173 => 100 | 175 => 122 | 210 => 125 | 212 => 116 | 213 => 117 | 232 => 138 | 233 => 139 | n => n, fun | 15 => 2 | 16 => 3 | 17 => 1 | 18 => 6 | 19 => 7 | n => n⟩
theorem shAtoi : Lays.n172 Tryz.prog shAtoi_ren := {
  mixed := by kernel_rfl,
  f129 := Tryz.func93.trans (congrArg some (by kernel_rfl)),
  f171 := Tryz.func12.trans (congrArg some (by kernel_rfl)),
  f172 := Tryz.func41.trans (congrArg some (by kernel_rfl)),
  f205 := Tryz.func106.trans (congrArg some (by kernel_rfl)),
  f243 := Tryz.func29.trans (congrArg some (by kernel_rfl)),
  f244 := Tryz.func67.trans (congrArg some (by kernel_rfl)),
  f245 := Tryz.func68.trans (congrArg some (by kernel_rfl)),
  f246 := Tryz.func46.trans (congrArg some (by kernel_rfl)),
  f247 := Tryz.func87.trans (congrArg some (by kernel_rfl)),
  f279 := Tryz.func88.trans (congrArg some (by kernel_rfl)),
  f280 := Tryz.func89.trans (congrArg some (by kernel_rfl)),
  f281 := Tryz.func90.trans (congrArg some (by kernel_rfl)),
  f282 := Tryz.func91.trans (congrArg some (by kernel_rfl)),
  f283 := Tryz.func71.trans (congrArg some (by kernel_rfl)),
  f284 := Tryz.func72.trans (congrArg some (by kernel_rfl)),
  f285 := Tryz.func73.trans (congrArg some (by kernel_rfl)),
  f286 := Tryz.func74.trans (congrArg some (by kernel_rfl)),
  f287 := Tryz.func104.trans (congrArg some (by kernel_rfl)),
  f316 := Tryz.func105.trans (congrArg some (by kernel_rfl)),
  f317 := Tryz.func92.trans (congrArg some (by kernel_rfl)),
  f318 := Tryz.func94.trans (congrArg some (by kernel_rfl)),
  f319 := Tryz.func95.trans (congrArg some (by kernel_rfl)),
  f320 := Tryz.func96.trans (congrArg some (by kernel_rfl)),
  f321 := Tryz.func111.trans (congrArg some (by kernel_rfl)),
  f322 := Tryz.func112.trans (congrArg some (by kernel_rfl)),
  f337 := Tryz.func107.trans (congrArg some (by kernel_rfl)),
  f338 := Tryz.func108.trans (congrArg some (by kernel_rfl)),
  t0 := Tryz.underlying0,
  a0 := Tryz.isAgg0,
  z0 := Tryz.sizeOf0,
  v0 := Tryz.zeroValue0,
  t2 := Tryz.underlying2,
  a2 := Tryz.isAgg2,
  z2 := Tryz.sizeOf2,
  v2 := Tryz.zeroValue2,
  t3 := Tryz.underlying3,
  a3 := Tryz.isAgg3,
  z3 := Tryz.sizeOf3,
  v3 := Tryz.zeroValue3,
  t4 := Tryz.underlying4,
  a4 := Tryz.isAgg4,
  z4 := Tryz.sizeOf4,
  v4 := Tryz.zeroValue4,
  t5 := Tryz.underlying5,
  a5 := Tryz.isAgg5,
  z5 := Tryz.sizeOf5,
  v5 := Tryz.zeroValue5,
  t9 := Tryz.underlying9,
  a9 := Tryz.isAgg9,
  z9 := Tryz.sizeOf9,
  v9 := Tryz.zeroValue9,
  t20 := Tryz.underlying20,
  a20 := Tryz.isAgg20,
  z20 := Tryz.sizeOf20,
  v20 := Tryz.zeroValue20,
  t21 := Tryz.underlying21,
  a21 := Tryz.isAgg21,
  z21 := Tryz.sizeOf21,
  v21 := Tryz.zeroValue21,
  t37 := Tryz.underlying54,
  a37 := Tryz.isAgg54,
  z37 := Tryz.sizeOf54,
  v37 := Tryz.zeroValue54,
  t46 := Tryz.underlying102,
  a46 := Tryz.isAgg102,
  z46 := Tryz.sizeOf102,
  v46 := Tryz.zeroValue102,
  t51 := Tryz.underlying94,
  a51 := Tryz.isAgg94,
  z51 := Tryz.sizeOf94,
  v51 := Tryz.zeroValue94,
  t53 := Tryz.underlying75,
  a53 := Tryz.isAgg75,
  z53 := Tryz.sizeOf75,
  v53 := Tryz.zeroValue75,
  t75 := Tryz.underlying65,
  a75 := Tryz.isAgg65,
  z75 := Tryz.sizeOf65,
  v75 := Tryz.zeroValue65,
  t76 := Tryz.underlying66,
  a76 := Tryz.isAgg66,
  z76 := Tryz.sizeOf66,
  v76 := Tryz.zeroValue66,
  t85 := Tryz.underlying110,
  a85 := Tryz.isAgg110,
  z85 := Tryz.sizeOf110,
  v85 := Tryz.zeroValue110,
  t127 := Tryz.underlying134,
  a127 := Tryz.isAgg134,
  z127 := Tryz.sizeOf134,
  v127 := Tryz.zeroValue134,
  t143 := Tryz.underlying135,
  a143 := Tryz.isAgg135,
  z143 := Tryz.sizeOf135,
  v143 := Tryz.zeroValue135,
  t145 := Tryz.underlying137,
  a145 := Tryz.isAgg137,
  z145 := Tryz.sizeOf137,
  v145 := Tryz.zeroValue137,
  t167 := Tryz.underlying109,
  a167 := Tryz.isAgg109,
  z167 := Tryz.sizeOf109,
  v167 := Tryz.zeroValue109,
  t168 := Tryz.underlying112,
  a168 := Tryz.isAgg112,
  z168 := Tryz.sizeOf112,
  v168 := Tryz.zeroValue112,
  t171 := Tryz.underlying97,
  a171 := Tryz.isAgg97,
  z171 := Tryz.sizeOf97,
  v171 := Tryz.zeroValue97,
  t173 := Tryz.underlying100,
  a173 := Tryz.isAgg100,
  z173 := Tryz.sizeOf100,
  v173 := Tryz.zeroValue100,
  t175 := Tryz.underlying122,
  a175 := Tryz.isAgg122,
  z175 := Tryz.sizeOf122,
  v175 := Tryz.zeroValue122,
  t210 := Tryz.underlying125,
  a210 := Tryz.isAgg125,
  z210 := Tryz.sizeOf125,
  v210 := Tryz.zeroValue125,
  t212 := Tryz.underlying116,
  a212 := Tryz.isAgg116,
  z212 := Tryz.sizeOf116,
  v212 := Tryz.zeroValue116,
  t213 := Tryz.underlying117,
  a213 := Tryz.isAgg117,
  z213 := Tryz.sizeOf117,
  t232 := Tryz.underlying138,
  a232 := Tryz.isAgg138,
  z232 := Tryz.sizeOf138,
  v232 := Tryz.zeroValue138,
  t233 := Tryz.underlying139,
  a233 := Tryz.isAgg139,
  z233 := Tryz.sizeOf139,
  v233 := Tryz.zeroValue139,
  g15 := by kernel_rfl,
  g16 := by kernel_rfl,
  g17 := by kernel_rfl,
  g18 := by kernel_rfl,
  g19 := by kernel_rfl }

theorem cut_any (t : List UInt8) (w : World) (hG : GInt w) (ht : t.length ≤ 10000000) :
    Calls Tryz.prog 18 #[.string (bstr t), .string ⟨#[10]⟩] w fun e w' => e = .returned (.tuple #[.string (bstr (Lib.cut t [10]).1), .string (bstr (Lib.cut t [10]).2.1), .bool (Lib.cut t [10]).2.2]) ∧ ∃ n, w' = w.drewN n := by
  obtain ⟨m, hm⟩ := hG
  exact Any.strings_Cut shCut (bstr t) ⟨#[10]⟩ m w (by rw [bstr_size]; omega) hm
theorem cutPrefix_any (t k : List UInt8) (w : World) :
    Calls Tryz.prog 19 #[.string (bstr t), .string (bstr k)] w fun e w' => e = .returned (.tuple #[.string (bstr (if Lib.hasPrefix t k = true then t.drop k.length else t)), .bool (Lib.hasPrefix t k)]) ∧ w' = w := by
  refine (Any.strings_CutPrefix shCutP (bstr t) (bstr k) w).mono ?_
  rintro e w' ⟨rfl, hw⟩
  refine ⟨?_, hw⟩
  unfold Lib.trimPrefix
  rfl
theorem sp_data (t : List UInt8) : (Lib.splitB ⟨#[32]⟩ 0 (Lib.countB (bstr t) ⟨#[32]⟩) (bstr t)) = (sg t).map bstr := by
  have h := Lib.splitB_data ⟨#[32]⟩ 0 (Lib.countB (bstr t) ⟨#[32]⟩) (bstr t)
  have e : (sg t) = (Lib.splitB ⟨#[32]⟩ 0 (Lib.countB (bstr t) ⟨#[32]⟩) (bstr t)).map (·.data.toList) := h.symm
  rw [e, List.map_map]
  exact (List.map_id'' (fun x => bstr_eq x) _).symm
theorem splitSp_any (t : List UInt8) (w : World) (hG : GInt w) (ht : t.length ≤ 10000000) :
    Calls Tryz.prog 39 #[.string (bstr t), .string ⟨#[32]⟩] w fun e w' => e = .returned (.slice (some ⟨w.heap.size, 0, none⟩) (sg t).length (sg t).length) ∧ w' = w.alloc (.cells ((sg t).map fun x => Value.string (bstr x)).toArray 9) := by
  obtain ⟨m, hm⟩ := hG
  have hl : (sg t).length = Lib.countB (bstr t) ⟨#[32]⟩ + 1 := by
    have := Lib.splitB_all ⟨#[32]⟩ (by decide) 0 _ (bstr t) rfl
    rw [sp_data, List.length_map] at this
    exact this
  have h := Any.strings_Split splitLays string_info (bstr t) ⟨#[32]⟩ m w (by rw [bstr_size]; omega) hm (by decide)
  refine h.mono ?_
  rintro e w' ⟨rfl, hw⟩
  refine ⟨by rw [hl], ?_⟩
  rw [hw, sp_data, List.map_map]
  rfl
theorem lastIx_any (t k : List UInt8) (w : World) (ht : t.length ≤ 10000000) :
    Calls Tryz.prog 24 #[.string (bstr t), .string (bstr k)] w fun e w' => e = .returned (.int .i64 (Lib.lastIndex t k)) ∧ w' = w :=
  Any.strings_LastIndex shLast (bstr t) (bstr k) (by rw [bstr_size]; omega) w
theorem atoi_any (b : List UInt8) (w : World) (hb : numB b = true) :
    Calls Tryz.prog 41 #[.string (bstr b)] w fun e w' => e = .returned (.tuple #[.int .i64 (numV b), .nilIface]) ∧ Below w.heap.size w w' := by
  have hl : b.length ≤ 9 := by
    unfold numB at hb
    rw [Bool.and_eq_true, Bool.and_eq_true, decide_eq_true_iff, decide_eq_true_iff] at hb
    exact hb.1.2
  refine (Any.strconv_Atoi shAtoi (bstr b) (numV b) (by rw [bstr_size]; omega) (num_val hb).1 w).mono ?_
  rintro e w' ⟨rfl, t, rfl⟩
  exact ⟨rfl, Lib.bytesWorld_below _ _ _⟩
end Go.Proofs.YtgfacedfndcgdaaGreatDoor
