/-
  'strings.Split': the library's contract at this program.
-/
import Derived.Test.YtnkdcmibafjplaaGreatDoorProg
import Derived.Test.YtnkdcmibafjplaaGreatDoorStr
import Derived.Shelf.Strings.Split
namespace Go.Proofs.YtnkdcmibafjplaaGreatDoor
open Go.RowKit Go.Shelf
set_option linter.unusedVariables false
set_option linter.unusedSimpArgs false

def splitLays_ren : Go.Shelf.Ren := ⟨fun | 138 => 189 | 143 => 181 | 146 => 111 | 195 => 209 | 197 => 155 | 217 => 192 | 218 => 210 | 219 => 196 | 221 => 158 | 224 => 194 | 225 => 195 | 260 => 186 | 266 => 211 | 267 => 212 | 268 => 188 | 314 => 218 | n => n, fun | 0 => 0 | 3 => 3 | 4 => 4 | 5 => 5 | 9 => 9 | 21 => 21 | 31 => 22 | 46 => 154 | 51 => 201 | 105 => 221 | 119 => 259 | 138 => 261 | 139 => 262 | 146 => 265 | n => n, fun | 1 => 0 | 3 => 1 | 4 => 2 | n => n⟩
theorem splitLays : Lays.n146 Tryz.prog splitLays_ren := {
  mixed := by kernel_rfl,
  f138 := Tryz.func189.trans (congrArg some (by kernel_rfl)),
  f143 := Tryz.func181.trans (congrArg some (by kernel_rfl)),
  f146 := Tryz.func111.trans (congrArg some (by kernel_rfl)),
  f195 := Tryz.func209.trans (congrArg some (by kernel_rfl)),
  f197 := Tryz.func155.trans (congrArg some (by kernel_rfl)),
  f217 := Tryz.func192.trans (congrArg some (by kernel_rfl)),
  f218 := Tryz.func210.trans (congrArg some (by kernel_rfl)),
  f219 := Tryz.func196.trans (congrArg some (by kernel_rfl)),
  f221 := Tryz.func158.trans (congrArg some (by kernel_rfl)),
  f224 := Tryz.func194.trans (congrArg some (by kernel_rfl)),
  f225 := Tryz.func195.trans (congrArg some (by kernel_rfl)),
  f260 := Tryz.func186.trans (congrArg some (by kernel_rfl)),
  f266 := Tryz.func211.trans (congrArg some (by kernel_rfl)),
  f267 := Tryz.func212.trans (congrArg some (by kernel_rfl)),
  f268 := Tryz.func188.trans (congrArg some (by kernel_rfl)),
  f314 := Tryz.func218.trans (congrArg some (by kernel_rfl)),
  t0 := Tryz.underlying0,
  a0 := Tryz.isAgg0,
  z0 := Tryz.sizeOf0,
  v0 := Tryz.zeroValue0,
  t3 := Tryz.underlying3,
  a3 := Tryz.isAgg3,
  z3 := Tryz.sizeOf3,
  v3 := Tryz.zeroValue3,
  t4 := Tryz.underlying4,
  a4 := Tryz.isAgg4,
  z4 := Tryz.sizeOf4,
  v4 := Tryz.zeroValue4,
  t5 := Tryz.underlying5,
  a5 := Tryz.isAgg5,
  z5 := Tryz.sizeOf5,
  v5 := Tryz.zeroValue5,
  t9 := Tryz.underlying9,
  a9 := Tryz.isAgg9,
  z9 := Tryz.sizeOf9,
  v9 := Tryz.zeroValue9,
  t21 := Tryz.underlying21,
  a21 := Tryz.isAgg21,
  z21 := Tryz.sizeOf21,
  v21 := Tryz.zeroValue21,
  t31 := Tryz.underlying22,
  a31 := Tryz.isAgg22,
  z31 := Tryz.sizeOf22,
  v31 := Tryz.zeroValue22,
  t46 := Tryz.underlying154,
  a46 := Tryz.isAgg154,
  z46 := Tryz.sizeOf154,
  v46 := Tryz.zeroValue154,
  t51 := Tryz.underlying201,
  a51 := Tryz.isAgg201,
  z51 := Tryz.sizeOf201,
  v51 := Tryz.zeroValue201,
  t105 := Tryz.underlying221,
  a105 := Tryz.isAgg221,
  z105 := Tryz.sizeOf221,
  v105 := Tryz.zeroValue221,
  t119 := Tryz.underlying259,
  a119 := Tryz.isAgg259,
  z119 := Tryz.sizeOf259,
  t138 := Tryz.underlying261,
  a138 := Tryz.isAgg261,
  z138 := Tryz.sizeOf261,
  v138 := Tryz.zeroValue261,
  t139 := Tryz.underlying262,
  a139 := Tryz.isAgg262,
  z139 := Tryz.sizeOf262,
  v139 := Tryz.zeroValue262,
  t146 := Tryz.underlying265,
  a146 := Tryz.isAgg265,
  z146 := Tryz.sizeOf265,
  v146 := Tryz.zeroValue265,
  g1 := by kernel_rfl,
  g3 := by kernel_rfl,
  g4 := by kernel_rfl }
/-- The variable of the library holds some number. -/
def GInt (w : World) : Prop := ∃ m, w.cell? ⟨0, 0, none⟩ = some (.int .i64 m)
theorem GInt.lt {w : World} (h : GInt w) : 0 < w.heap.size := by
  obtain ⟨m, hm⟩ := h
  exact World.block_lt_of_cell? w _ hm
theorem GInt.ext {w w' : World} (h : GInt w) (hb : Below w.heap.size w w') : GInt w' := by
  have hl := h.lt
  obtain ⟨m, hm⟩ := h
  exact ⟨m, (hb.cell (p := ⟨0, 0, none⟩) hl).trans hm⟩
end Go.Proofs.YtnkdcmibafjplaaGreatDoor
