/-
  The law 'RightsConcernsMatchSpec' walked: it returns true.
-/
import Derived.Test.YtobgkmkapknppaaDoorConc
import Derived.Test.YtobgkmkapknppaaDoorAwake10
namespace Go.Proofs.YtobgkmkapknppaaDoor
open Go.RowKit
set_option linter.unusedVariables false
set_option linter.unusedSimpArgs false

set_option maxRecDepth 100000 in
set_option maxHeartbeats 4000000 in
theorem concLaw_any (csa : Array Value) (a : Rgt) (csb : Array Value) (b : Rgt) (csc : Array Value) (c : Cap) (v3 : Value) (at_ : Int) (w : World) (h0 : rgtRp.ok w (· < w.heap.size) csa.toList a) (f0 : rgtRp.fits a)
    (h1 : rgtRp.ok w (· < w.heap.size) csb.toList b) (f1 : rgtRp.fits b) (h2 : capRp.ok w (· < w.heap.size) csc.toList c) (f2 : capRp.fits c) (h3 : (Rp.int .i64).ok w (· < w.heap.size) [v3] at_) (f3 : (Rp.int .i64).fits at_) :
    Calls Tryd.prog 4 #[.agg csa, .agg csb, .agg csc, v3] w fun e w' => e = .returned (.bool true) ∧ Below w.heap.size w w' := by
  obtain ⟨e3, _⟩ := h3
  injection e3 with e3
  subst e3
  obtain ⟨ea, ha0, ha1, _, _, _, _, _, _, ha8⟩ := rgt_open h0
  obtain ⟨eb, hb0, hb1, _, _, _, _, _, _, hb8⟩ := rgt_open h1
  obtain ⟨ec, hc0, _⟩ := cap_open h2
  obtain rfl : csa = #[.string (bstr a.id), .string (bstr a.pre), .int .i64 a.frm, .int .i64 a.to, .int .i64 a.st, .int .i64 a.en, .int .i64 a.made, .int .i64 a.kind, .string (bstr a.team)] := by apply Array.toList_inj.1; rw [ea]; rfl
  obtain rfl : csb = #[.string (bstr b.id), .string (bstr b.pre), .int .i64 b.frm, .int .i64 b.to, .int .i64 b.st, .int .i64 b.en, .int .i64 b.made, .int .i64 b.kind, .string (bstr b.team)] := by apply Array.toList_inj.1; rw [eb]; rfl
  obtain rfl : csc = #[.string (bstr c.key), .int .i64 c.time] := by apply Array.toList_inj.1; rw [ec]; rfl
  unfold maxLen at ha0 ha1 ha8 hb0 hb1 hb8 hc0
  clear h0 h1 h2 f0 f1 f2 f3 ea eb ec
  have na0 : a.id.length ≤ 9223372036854775807 := by omega
  have na1 : a.pre.length ≤ 9223372036854775807 := by omega
  have na8 : a.team.length ≤ 9223372036854775807 := by omega
  have nb0 : b.id.length ≤ 9223372036854775807 := by omega
  have nb1 : b.pre.length ≤ 9223372036854775807 := by omega
  have nb8 : b.team.length ≤ 9223372036854775807 := by omega
  have nc0 : c.key.length ≤ 9223372036854775807 := by omega
  clear ha0 ha1 ha8 hb0 hb1 hb8 hc0
  have hl1 := (Below.refl w.heap.size w).alloc (Nat.le_refl _) (.cells #[.string (bstr a.id), .string (bstr a.pre), .int .i64 a.frm, .int .i64 a.to, .int .i64 a.st, .int .i64 a.en, .int .i64 a.made, .int .i64 a.kind, .string (bstr a.team)] 23)
  have hl2 := (Below.refl (w.alloc (.cells #[.string (bstr a.id), .string (bstr a.pre), .int .i64 a.frm, .int .i64 a.to, .int .i64 a.st, .int .i64 a.en, .int .i64 a.made, .int .i64 a.kind, .string (bstr a.team)] 23)).heap.size _).alloc (Nat.le_refl _) (.cells #[.string (bstr b.id), .string (bstr b.pre), .int .i64 b.frm, .int .i64 b.to, .int .i64 b.st, .int .i64 b.en, .int .i64 b.made, .int .i64 b.kind, .string (bstr b.team)] 23)
  have hl3 := (Below.refl ((w.alloc (.cells #[.string (bstr a.id), .string (bstr a.pre), .int .i64 a.frm, .int .i64 a.to, .int .i64 a.st, .int .i64 a.en, .int .i64 a.made, .int .i64 a.kind, .string (bstr a.team)] 23)).alloc (.cells #[.string (bstr b.id), .string (bstr b.pre), .int .i64 b.frm, .int .i64 b.to, .int .i64 b.st, .int .i64 b.en, .int .i64 b.made, .int .i64 b.kind, .string (bstr b.team)] 23)).heap.size _).alloc (Nat.le_refl _) (.cells #[.string (bstr c.key), .int .i64 c.time] 30)
  have HB0 := Lib.hid ((hl1.trans (hl2.mono (by simp))).trans (hl3.mono (by simp; omega)))
  have hka : Blk (((w.alloc (.cells #[.string (bstr a.id), .string (bstr a.pre), .int .i64 a.frm, .int .i64 a.to, .int .i64 a.st, .int .i64 a.en, .int .i64 a.made, .int .i64 a.kind, .string (bstr a.team)] 23)).alloc (.cells #[.string (bstr b.id), .string (bstr b.pre), .int .i64 b.frm, .int .i64 b.to, .int .i64 b.st, .int .i64 b.en, .int .i64 b.made, .int .i64 b.kind, .string (bstr b.team)] 23)).alloc (.cells #[.string (bstr c.key), .int .i64 c.time] 30)) (w.heap.size) 23 (rgtCells a) := ((Blk.new w 23 (rgtCells a)).same (same_below hl2) (by simp)).same (same_below hl3) (by simp; omega)
  have hkb : Blk (((w.alloc (.cells #[.string (bstr a.id), .string (bstr a.pre), .int .i64 a.frm, .int .i64 a.to, .int .i64 a.st, .int .i64 a.en, .int .i64 a.made, .int .i64 a.kind, .string (bstr a.team)] 23)).alloc (.cells #[.string (bstr b.id), .string (bstr b.pre), .int .i64 b.frm, .int .i64 b.to, .int .i64 b.st, .int .i64 b.en, .int .i64 b.made, .int .i64 b.kind, .string (bstr b.team)] 23)).alloc (.cells #[.string (bstr c.key), .int .i64 c.time] 30)) (w.heap.size + 1) 23 (rgtCells b) := by
    have := (Blk.new (w.alloc (.cells #[.string (bstr a.id), .string (bstr a.pre), .int .i64 a.frm, .int .i64 a.to, .int .i64 a.st, .int .i64 a.en, .int .i64 a.made, .int .i64 a.kind, .string (bstr a.team)] 23)) 23 (rgtCells b)).same (same_below hl3) (by simp)
    rwa [World.size_alloc] at this
  have hkc : Blk (((w.alloc (.cells #[.string (bstr a.id), .string (bstr a.pre), .int .i64 a.frm, .int .i64 a.to, .int .i64 a.st, .int .i64 a.en, .int .i64 a.made, .int .i64 a.kind, .string (bstr a.team)] 23)).alloc (.cells #[.string (bstr b.id), .string (bstr b.pre), .int .i64 b.frm, .int .i64 b.to, .int .i64 b.st, .int .i64 b.en, .int .i64 b.made, .int .i64 b.kind, .string (bstr b.team)] 23)).alloc (.cells #[.string (bstr c.key), .int .i64 c.time] 30)) (w.heap.size + 1 + 1) 30 (capCells c) := by
    have := Blk.new ((w.alloc (.cells #[.string (bstr a.id), .string (bstr a.pre), .int .i64 a.frm, .int .i64 a.to, .int .i64 a.st, .int .i64 a.en, .int .i64 a.made, .int .i64 a.kind, .string (bstr a.team)] 23)).alloc (.cells #[.string (bstr b.id), .string (bstr b.pre), .int .i64 b.frm, .int .i64 b.to, .int .i64 b.st, .int .i64 b.en, .int .i64 b.made, .int .i64 b.kind, .string (bstr b.team)] 23)) 30 (capCells c)
    rwa [World.size_alloc, World.size_alloc] at this
  have HKa0 := Lib.hid hka
  have HKb0 := Lib.hid hkb
  have HKc0 := Lib.hid hkc
  clear hl1 hl2 hl3 hka hkb hkc
  go_enter Tryd.func4, Tryd.ntmps4
  have x0 : (((w.alloc (.cells #[.string (bstr a.id), .string (bstr a.pre), .int .i64 a.frm, .int .i64 a.to, .int .i64 a.st, .int .i64 a.en, .int .i64 a.made, .int .i64 a.kind, .string (bstr a.team)] 23)).alloc (.cells #[.string (bstr b.id), .string (bstr b.pre), .int .i64 b.frm, .int .i64 b.to, .int .i64 b.st, .int .i64 b.en, .int .i64 b.made, .int .i64 b.kind, .string (bstr b.team)] 23)).alloc (.cells #[.string (bstr c.key), .int .i64 c.time] 30)).cell? ⟨w.heap.size, 0, none⟩ = some (.string (bstr a.id)) := HKa0.out.cell 0
  have x1 : (((w.alloc (.cells #[.string (bstr a.id), .string (bstr a.pre), .int .i64 a.frm, .int .i64 a.to, .int .i64 a.st, .int .i64 a.en, .int .i64 a.made, .int .i64 a.kind, .string (bstr a.team)] 23)).alloc (.cells #[.string (bstr b.id), .string (bstr b.pre), .int .i64 b.frm, .int .i64 b.to, .int .i64 b.st, .int .i64 b.en, .int .i64 b.made, .int .i64 b.kind, .string (bstr b.team)] 23)).alloc (.cells #[.string (bstr c.key), .int .i64 c.time] 30)).cell? ⟨w.heap.size, 1, none⟩ = some (.string (bstr a.pre)) := HKa0.out.cell 1
  have x2 : (((w.alloc (.cells #[.string (bstr a.id), .string (bstr a.pre), .int .i64 a.frm, .int .i64 a.to, .int .i64 a.st, .int .i64 a.en, .int .i64 a.made, .int .i64 a.kind, .string (bstr a.team)] 23)).alloc (.cells #[.string (bstr b.id), .string (bstr b.pre), .int .i64 b.frm, .int .i64 b.to, .int .i64 b.st, .int .i64 b.en, .int .i64 b.made, .int .i64 b.kind, .string (bstr b.team)] 23)).alloc (.cells #[.string (bstr c.key), .int .i64 c.time] 30)).cell? ⟨w.heap.size, 2, none⟩ = some (.int .i64 a.frm) := HKa0.out.cell 2
  have x3 : (((w.alloc (.cells #[.string (bstr a.id), .string (bstr a.pre), .int .i64 a.frm, .int .i64 a.to, .int .i64 a.st, .int .i64 a.en, .int .i64 a.made, .int .i64 a.kind, .string (bstr a.team)] 23)).alloc (.cells #[.string (bstr b.id), .string (bstr b.pre), .int .i64 b.frm, .int .i64 b.to, .int .i64 b.st, .int .i64 b.en, .int .i64 b.made, .int .i64 b.kind, .string (bstr b.team)] 23)).alloc (.cells #[.string (bstr c.key), .int .i64 c.time] 30)).cell? ⟨w.heap.size, 3, none⟩ = some (.int .i64 a.to) := HKa0.out.cell 3
  have x4 : (((w.alloc (.cells #[.string (bstr a.id), .string (bstr a.pre), .int .i64 a.frm, .int .i64 a.to, .int .i64 a.st, .int .i64 a.en, .int .i64 a.made, .int .i64 a.kind, .string (bstr a.team)] 23)).alloc (.cells #[.string (bstr b.id), .string (bstr b.pre), .int .i64 b.frm, .int .i64 b.to, .int .i64 b.st, .int .i64 b.en, .int .i64 b.made, .int .i64 b.kind, .string (bstr b.team)] 23)).alloc (.cells #[.string (bstr c.key), .int .i64 c.time] 30)).cell? ⟨w.heap.size, 4, none⟩ = some (.int .i64 a.st) := HKa0.out.cell 4
  have x5 : (((w.alloc (.cells #[.string (bstr a.id), .string (bstr a.pre), .int .i64 a.frm, .int .i64 a.to, .int .i64 a.st, .int .i64 a.en, .int .i64 a.made, .int .i64 a.kind, .string (bstr a.team)] 23)).alloc (.cells #[.string (bstr b.id), .string (bstr b.pre), .int .i64 b.frm, .int .i64 b.to, .int .i64 b.st, .int .i64 b.en, .int .i64 b.made, .int .i64 b.kind, .string (bstr b.team)] 23)).alloc (.cells #[.string (bstr c.key), .int .i64 c.time] 30)).cell? ⟨w.heap.size, 5, none⟩ = some (.int .i64 a.en) := HKa0.out.cell 5
  have x6 : (((w.alloc (.cells #[.string (bstr a.id), .string (bstr a.pre), .int .i64 a.frm, .int .i64 a.to, .int .i64 a.st, .int .i64 a.en, .int .i64 a.made, .int .i64 a.kind, .string (bstr a.team)] 23)).alloc (.cells #[.string (bstr b.id), .string (bstr b.pre), .int .i64 b.frm, .int .i64 b.to, .int .i64 b.st, .int .i64 b.en, .int .i64 b.made, .int .i64 b.kind, .string (bstr b.team)] 23)).alloc (.cells #[.string (bstr c.key), .int .i64 c.time] 30)).cell? ⟨w.heap.size, 6, none⟩ = some (.int .i64 a.made) := HKa0.out.cell 6
  have x7 : (((w.alloc (.cells #[.string (bstr a.id), .string (bstr a.pre), .int .i64 a.frm, .int .i64 a.to, .int .i64 a.st, .int .i64 a.en, .int .i64 a.made, .int .i64 a.kind, .string (bstr a.team)] 23)).alloc (.cells #[.string (bstr b.id), .string (bstr b.pre), .int .i64 b.frm, .int .i64 b.to, .int .i64 b.st, .int .i64 b.en, .int .i64 b.made, .int .i64 b.kind, .string (bstr b.team)] 23)).alloc (.cells #[.string (bstr c.key), .int .i64 c.time] 30)).cell? ⟨w.heap.size, 7, none⟩ = some (.int .i64 a.kind) := HKa0.out.cell 7
  have x8 : (((w.alloc (.cells #[.string (bstr a.id), .string (bstr a.pre), .int .i64 a.frm, .int .i64 a.to, .int .i64 a.st, .int .i64 a.en, .int .i64 a.made, .int .i64 a.kind, .string (bstr a.team)] 23)).alloc (.cells #[.string (bstr b.id), .string (bstr b.pre), .int .i64 b.frm, .int .i64 b.to, .int .i64 b.st, .int .i64 b.en, .int .i64 b.made, .int .i64 b.kind, .string (bstr b.team)] 23)).alloc (.cells #[.string (bstr c.key), .int .i64 c.time] 30)).cell? ⟨w.heap.size, 8, none⟩ = some (.string (bstr a.team)) := HKa0.out.cell 8
  have y0 : (((w.alloc (.cells #[.string (bstr a.id), .string (bstr a.pre), .int .i64 a.frm, .int .i64 a.to, .int .i64 a.st, .int .i64 a.en, .int .i64 a.made, .int .i64 a.kind, .string (bstr a.team)] 23)).alloc (.cells #[.string (bstr b.id), .string (bstr b.pre), .int .i64 b.frm, .int .i64 b.to, .int .i64 b.st, .int .i64 b.en, .int .i64 b.made, .int .i64 b.kind, .string (bstr b.team)] 23)).alloc (.cells #[.string (bstr c.key), .int .i64 c.time] 30)).cell? ⟨w.heap.size + 1, 0, none⟩ = some (.string (bstr b.id)) := HKb0.out.cell 0
  have y1 : (((w.alloc (.cells #[.string (bstr a.id), .string (bstr a.pre), .int .i64 a.frm, .int .i64 a.to, .int .i64 a.st, .int .i64 a.en, .int .i64 a.made, .int .i64 a.kind, .string (bstr a.team)] 23)).alloc (.cells #[.string (bstr b.id), .string (bstr b.pre), .int .i64 b.frm, .int .i64 b.to, .int .i64 b.st, .int .i64 b.en, .int .i64 b.made, .int .i64 b.kind, .string (bstr b.team)] 23)).alloc (.cells #[.string (bstr c.key), .int .i64 c.time] 30)).cell? ⟨w.heap.size + 1, 1, none⟩ = some (.string (bstr b.pre)) := HKb0.out.cell 1
  have y2 : (((w.alloc (.cells #[.string (bstr a.id), .string (bstr a.pre), .int .i64 a.frm, .int .i64 a.to, .int .i64 a.st, .int .i64 a.en, .int .i64 a.made, .int .i64 a.kind, .string (bstr a.team)] 23)).alloc (.cells #[.string (bstr b.id), .string (bstr b.pre), .int .i64 b.frm, .int .i64 b.to, .int .i64 b.st, .int .i64 b.en, .int .i64 b.made, .int .i64 b.kind, .string (bstr b.team)] 23)).alloc (.cells #[.string (bstr c.key), .int .i64 c.time] 30)).cell? ⟨w.heap.size + 1, 2, none⟩ = some (.int .i64 b.frm) := HKb0.out.cell 2
  have y3 : (((w.alloc (.cells #[.string (bstr a.id), .string (bstr a.pre), .int .i64 a.frm, .int .i64 a.to, .int .i64 a.st, .int .i64 a.en, .int .i64 a.made, .int .i64 a.kind, .string (bstr a.team)] 23)).alloc (.cells #[.string (bstr b.id), .string (bstr b.pre), .int .i64 b.frm, .int .i64 b.to, .int .i64 b.st, .int .i64 b.en, .int .i64 b.made, .int .i64 b.kind, .string (bstr b.team)] 23)).alloc (.cells #[.string (bstr c.key), .int .i64 c.time] 30)).cell? ⟨w.heap.size + 1, 3, none⟩ = some (.int .i64 b.to) := HKb0.out.cell 3
  have y4 : (((w.alloc (.cells #[.string (bstr a.id), .string (bstr a.pre), .int .i64 a.frm, .int .i64 a.to, .int .i64 a.st, .int .i64 a.en, .int .i64 a.made, .int .i64 a.kind, .string (bstr a.team)] 23)).alloc (.cells #[.string (bstr b.id), .string (bstr b.pre), .int .i64 b.frm, .int .i64 b.to, .int .i64 b.st, .int .i64 b.en, .int .i64 b.made, .int .i64 b.kind, .string (bstr b.team)] 23)).alloc (.cells #[.string (bstr c.key), .int .i64 c.time] 30)).cell? ⟨w.heap.size + 1, 4, none⟩ = some (.int .i64 b.st) := HKb0.out.cell 4
  have y5 : (((w.alloc (.cells #[.string (bstr a.id), .string (bstr a.pre), .int .i64 a.frm, .int .i64 a.to, .int .i64 a.st, .int .i64 a.en, .int .i64 a.made, .int .i64 a.kind, .string (bstr a.team)] 23)).alloc (.cells #[.string (bstr b.id), .string (bstr b.pre), .int .i64 b.frm, .int .i64 b.to, .int .i64 b.st, .int .i64 b.en, .int .i64 b.made, .int .i64 b.kind, .string (bstr b.team)] 23)).alloc (.cells #[.string (bstr c.key), .int .i64 c.time] 30)).cell? ⟨w.heap.size + 1, 5, none⟩ = some (.int .i64 b.en) := HKb0.out.cell 5
  have y6 : (((w.alloc (.cells #[.string (bstr a.id), .string (bstr a.pre), .int .i64 a.frm, .int .i64 a.to, .int .i64 a.st, .int .i64 a.en, .int .i64 a.made, .int .i64 a.kind, .string (bstr a.team)] 23)).alloc (.cells #[.string (bstr b.id), .string (bstr b.pre), .int .i64 b.frm, .int .i64 b.to, .int .i64 b.st, .int .i64 b.en, .int .i64 b.made, .int .i64 b.kind, .string (bstr b.team)] 23)).alloc (.cells #[.string (bstr c.key), .int .i64 c.time] 30)).cell? ⟨w.heap.size + 1, 6, none⟩ = some (.int .i64 b.made) := HKb0.out.cell 6
  have y7 : (((w.alloc (.cells #[.string (bstr a.id), .string (bstr a.pre), .int .i64 a.frm, .int .i64 a.to, .int .i64 a.st, .int .i64 a.en, .int .i64 a.made, .int .i64 a.kind, .string (bstr a.team)] 23)).alloc (.cells #[.string (bstr b.id), .string (bstr b.pre), .int .i64 b.frm, .int .i64 b.to, .int .i64 b.st, .int .i64 b.en, .int .i64 b.made, .int .i64 b.kind, .string (bstr b.team)] 23)).alloc (.cells #[.string (bstr c.key), .int .i64 c.time] 30)).cell? ⟨w.heap.size + 1, 7, none⟩ = some (.int .i64 b.kind) := HKb0.out.cell 7
  have y8 : (((w.alloc (.cells #[.string (bstr a.id), .string (bstr a.pre), .int .i64 a.frm, .int .i64 a.to, .int .i64 a.st, .int .i64 a.en, .int .i64 a.made, .int .i64 a.kind, .string (bstr a.team)] 23)).alloc (.cells #[.string (bstr b.id), .string (bstr b.pre), .int .i64 b.frm, .int .i64 b.to, .int .i64 b.st, .int .i64 b.en, .int .i64 b.made, .int .i64 b.kind, .string (bstr b.team)] 23)).alloc (.cells #[.string (bstr c.key), .int .i64 c.time] 30)).cell? ⟨w.heap.size + 1, 8, none⟩ = some (.string (bstr b.team)) := HKb0.out.cell 8
  have z0 : (((w.alloc (.cells #[.string (bstr a.id), .string (bstr a.pre), .int .i64 a.frm, .int .i64 a.to, .int .i64 a.st, .int .i64 a.en, .int .i64 a.made, .int .i64 a.kind, .string (bstr a.team)] 23)).alloc (.cells #[.string (bstr b.id), .string (bstr b.pre), .int .i64 b.frm, .int .i64 b.to, .int .i64 b.st, .int .i64 b.en, .int .i64 b.made, .int .i64 b.kind, .string (bstr b.team)] 23)).alloc (.cells #[.string (bstr c.key), .int .i64 c.time] 30)).cell? ⟨w.heap.size + 1 + 1, 0, none⟩ = some (.string (bstr c.key)) := HKc0.out.cell 0
  have z1 : (((w.alloc (.cells #[.string (bstr a.id), .string (bstr a.pre), .int .i64 a.frm, .int .i64 a.to, .int .i64 a.st, .int .i64 a.en, .int .i64 a.made, .int .i64 a.kind, .string (bstr a.team)] 23)).alloc (.cells #[.string (bstr b.id), .string (bstr b.pre), .int .i64 b.frm, .int .i64 b.to, .int .i64 b.st, .int .i64 b.en, .int .i64 b.made, .int .i64 b.kind, .string (bstr b.team)] 23)).alloc (.cells #[.string (bstr c.key), .int .i64 c.time] 30)).cell? ⟨w.heap.size + 1 + 1, 1, none⟩ = some (.int .i64 c.time) := HKc0.out.cell 1
  go_wp2_with fail
  generalize ((w.alloc (.cells #[.string (bstr a.id), .string (bstr a.pre), .int .i64 a.frm, .int .i64 a.to, .int .i64 a.st, .int .i64 a.en, .int .i64 a.made, .int .i64 a.kind, .string (bstr a.team)] 23)).alloc (.cells #[.string (bstr b.id), .string (bstr b.pre), .int .i64 b.frm, .int .i64 b.to, .int .i64 b.st, .int .i64 b.en, .int .i64 b.made, .int .i64 b.kind, .string (bstr b.team)] 23)).alloc (.cells #[.string (bstr c.key), .int .i64 c.time] 30) = w0 at *
  refine (concTop_any a c at_ _ na0 na1 na8 nc0).mono ?_
  rintro e w1 ⟨rfl, hb⟩
  have HB1 := Lib.hid (HB0.out.trans (hb.mono HB0.out.size))
  have HKa1 := Lib.hid (HKa0.out.same (same_below hb) HKa0.out.lt)
  have HKb1 := Lib.hid (HKb0.out.same (same_below hb) HKb0.out.lt)
  have HKc1 := Lib.hid (HKc0.out.same (same_below hb) HKc0.out.lt)
  clear hb HB0 HKa0 HKb0 HKc0 x0 x1 x2 x3 x4 x5 x6 x7 x8 y0 y1 y2 y3 y4 y5 y6 y7 y8 z0 z1
  have x0 : w1.cell? ⟨w.heap.size, 0, none⟩ = some (.string (bstr a.id)) := HKa1.out.cell 0
  have x1 : w1.cell? ⟨w.heap.size, 1, none⟩ = some (.string (bstr a.pre)) := HKa1.out.cell 1
  have x2 : w1.cell? ⟨w.heap.size, 2, none⟩ = some (.int .i64 a.frm) := HKa1.out.cell 2
  have x3 : w1.cell? ⟨w.heap.size, 3, none⟩ = some (.int .i64 a.to) := HKa1.out.cell 3
  have x4 : w1.cell? ⟨w.heap.size, 4, none⟩ = some (.int .i64 a.st) := HKa1.out.cell 4
  have x5 : w1.cell? ⟨w.heap.size, 5, none⟩ = some (.int .i64 a.en) := HKa1.out.cell 5
  have x6 : w1.cell? ⟨w.heap.size, 6, none⟩ = some (.int .i64 a.made) := HKa1.out.cell 6
  have x7 : w1.cell? ⟨w.heap.size, 7, none⟩ = some (.int .i64 a.kind) := HKa1.out.cell 7
  have x8 : w1.cell? ⟨w.heap.size, 8, none⟩ = some (.string (bstr a.team)) := HKa1.out.cell 8
  have y0 : w1.cell? ⟨w.heap.size + 1, 0, none⟩ = some (.string (bstr b.id)) := HKb1.out.cell 0
  have y1 : w1.cell? ⟨w.heap.size + 1, 1, none⟩ = some (.string (bstr b.pre)) := HKb1.out.cell 1
  have y2 : w1.cell? ⟨w.heap.size + 1, 2, none⟩ = some (.int .i64 b.frm) := HKb1.out.cell 2
  have y3 : w1.cell? ⟨w.heap.size + 1, 3, none⟩ = some (.int .i64 b.to) := HKb1.out.cell 3
  have y4 : w1.cell? ⟨w.heap.size + 1, 4, none⟩ = some (.int .i64 b.st) := HKb1.out.cell 4
  have y5 : w1.cell? ⟨w.heap.size + 1, 5, none⟩ = some (.int .i64 b.en) := HKb1.out.cell 5
  have y6 : w1.cell? ⟨w.heap.size + 1, 6, none⟩ = some (.int .i64 b.made) := HKb1.out.cell 6
  have y7 : w1.cell? ⟨w.heap.size + 1, 7, none⟩ = some (.int .i64 b.kind) := HKb1.out.cell 7
  have y8 : w1.cell? ⟨w.heap.size + 1, 8, none⟩ = some (.string (bstr b.team)) := HKb1.out.cell 8
  have z0 : w1.cell? ⟨w.heap.size + 1 + 1, 0, none⟩ = some (.string (bstr c.key)) := HKc1.out.cell 0
  have z1 : w1.cell? ⟨w.heap.size + 1 + 1, 1, none⟩ = some (.int .i64 c.time) := HKc1.out.cell 1
  go_wp2_with fail
  refine (hconcTop_any a c at_ _ na0 na1 na8 nc0).mono ?_
  rintro e w2 ⟨rfl, hb⟩
  have HB2 := Lib.hid (HB1.out.trans (hb.mono HB1.out.size))
  have HKa2 := Lib.hid (HKa1.out.same (same_below hb) HKa1.out.lt)
  have HKb2 := Lib.hid (HKb1.out.same (same_below hb) HKb1.out.lt)
  have HKc2 := Lib.hid (HKc1.out.same (same_below hb) HKc1.out.lt)
  clear hb HB1 HKa1 HKb1 HKc1 x0 x1 x2 x3 x4 x5 x6 x7 x8 y0 y1 y2 y3 y4 y5 y6 y7 y8 z0 z1
  generalize concTop a c at_ = p1 at *
  obtain ⟨p, q⟩ := p1
  dsimp only
  have x0 : w2.cell? ⟨w.heap.size, 0, none⟩ = some (.string (bstr a.id)) := HKa2.out.cell 0
  have x1 : w2.cell? ⟨w.heap.size, 1, none⟩ = some (.string (bstr a.pre)) := HKa2.out.cell 1
  have x2 : w2.cell? ⟨w.heap.size, 2, none⟩ = some (.int .i64 a.frm) := HKa2.out.cell 2
  have x3 : w2.cell? ⟨w.heap.size, 3, none⟩ = some (.int .i64 a.to) := HKa2.out.cell 3
  have x4 : w2.cell? ⟨w.heap.size, 4, none⟩ = some (.int .i64 a.st) := HKa2.out.cell 4
  have x5 : w2.cell? ⟨w.heap.size, 5, none⟩ = some (.int .i64 a.en) := HKa2.out.cell 5
  have x6 : w2.cell? ⟨w.heap.size, 6, none⟩ = some (.int .i64 a.made) := HKa2.out.cell 6
  have x7 : w2.cell? ⟨w.heap.size, 7, none⟩ = some (.int .i64 a.kind) := HKa2.out.cell 7
  have x8 : w2.cell? ⟨w.heap.size, 8, none⟩ = some (.string (bstr a.team)) := HKa2.out.cell 8
  have y0 : w2.cell? ⟨w.heap.size + 1, 0, none⟩ = some (.string (bstr b.id)) := HKb2.out.cell 0
  have y1 : w2.cell? ⟨w.heap.size + 1, 1, none⟩ = some (.string (bstr b.pre)) := HKb2.out.cell 1
  have y2 : w2.cell? ⟨w.heap.size + 1, 2, none⟩ = some (.int .i64 b.frm) := HKb2.out.cell 2
  have y3 : w2.cell? ⟨w.heap.size + 1, 3, none⟩ = some (.int .i64 b.to) := HKb2.out.cell 3
  have y4 : w2.cell? ⟨w.heap.size + 1, 4, none⟩ = some (.int .i64 b.st) := HKb2.out.cell 4
  have y5 : w2.cell? ⟨w.heap.size + 1, 5, none⟩ = some (.int .i64 b.en) := HKb2.out.cell 5
  have y6 : w2.cell? ⟨w.heap.size + 1, 6, none⟩ = some (.int .i64 b.made) := HKb2.out.cell 6
  have y7 : w2.cell? ⟨w.heap.size + 1, 7, none⟩ = some (.int .i64 b.kind) := HKb2.out.cell 7
  have y8 : w2.cell? ⟨w.heap.size + 1, 8, none⟩ = some (.string (bstr b.team)) := HKb2.out.cell 8
  have z0 : w2.cell? ⟨w.heap.size + 1 + 1, 0, none⟩ = some (.string (bstr c.key)) := HKc2.out.cell 0
  have z1 : w2.cell? ⟨w.heap.size + 1 + 1, 1, none⟩ = some (.int .i64 c.time) := HKc2.out.cell 1
  have HNT : Hid (∀ W, Calls Tryd.prog 5 #[.agg #[.string (bstr a.id), .string (bstr a.pre), .int .i64 a.frm, .int .i64 a.to, .int .i64 a.st, .int .i64 a.en, .int .i64 a.made, .int .i64 a.kind, .string (bstr a.team)], .agg #[.string (bstr b.id), .string (bstr b.pre), .int .i64 b.frm, .int .i64 b.to, .int .i64 b.st, .int .i64 b.en, .int .i64 b.made, .int .i64 b.kind, .string (bstr b.team)]] W fun e w' => e = .returned (.tuple #[.int .i64 (nearTop a b).1, .int .i64 (nearTop a b).2]) ∧ Below W.heap.size W w') := Lib.hid (fun W => nearTop_any a b W na0 na1 na8 nb0 nb1 nb8)
  have HNR : Hid (∀ W, Calls Tryd.prog 9 #[.agg #[.string (bstr a.id), .string (bstr a.pre), .int .i64 a.frm, .int .i64 a.to, .int .i64 a.st, .int .i64 a.en, .int .i64 a.made, .int .i64 a.kind, .string (bstr a.team)], .agg #[.string (bstr b.id), .string (bstr b.pre), .int .i64 b.frm, .int .i64 b.to, .int .i64 b.st, .int .i64 b.en, .int .i64 b.made, .int .i64 b.kind, .string (bstr b.team)]] W fun e w' => e = .returned (.tuple #[.int .i64 (nearTop a b).1, .int .i64 (nearTop a b).2]) ∧ Below W.heap.size W w') := Lib.hid (fun W => hnearTop_any a b W na0 na1 na8 nb0 nb1 nb8)
  have AWK : Hid (∀ W, Calls Tryd.prog 6 #[] W fun e w' => e = .returned (.bool true) ∧ Below W.heap.size W w') := Lib.hid awake_any
  have HST : Hid (∀ (W W' : World), Below W.heap.size W W' → Blk W w.heap.size 23 (rgtCells a) → Blk W (w.heap.size + 1) 23 (rgtCells b) → Blk W' w.heap.size 23 (rgtCells a) ∧ Blk W' (w.heap.size + 1) 23 (rgtCells b)) := Lib.hid (fun W W' h ka kb => ⟨ka.same (same_below h) ka.lt, kb.same (same_below h) kb.lt⟩)
  generalize nearTop a b = p2 at *
  obtain ⟨n, f⟩ := p2
  dsimp only at HNT HNR
  cases p
  all_goals
    go_wp2_with fail
    refine (HNT.out _).mono ?_
    rintro e w3 ⟨rfl, hb⟩
    have HB3 := Lib.hid (HB2.out.trans (hb.mono HB2.out.size))
    have HK3 := HST.out _ _ hb HKa2.out HKb2.out
    have HKa3 := Lib.hid HK3.1
    have HKb3 := Lib.hid HK3.2
    clear hb HK3 x0 x1 x2 x3 x4 x5 x6 x7 x8 y0 y1 y2 y3 y4 y5 y6 y7 y8 z0 z1
    have x0 : w3.cell? ⟨w.heap.size, 0, none⟩ = some (.string (bstr a.id)) := HKa3.out.cell 0
    have x1 : w3.cell? ⟨w.heap.size, 1, none⟩ = some (.string (bstr a.pre)) := HKa3.out.cell 1
    have x2 : w3.cell? ⟨w.heap.size, 2, none⟩ = some (.int .i64 a.frm) := HKa3.out.cell 2
    have x3 : w3.cell? ⟨w.heap.size, 3, none⟩ = some (.int .i64 a.to) := HKa3.out.cell 3
    have x4 : w3.cell? ⟨w.heap.size, 4, none⟩ = some (.int .i64 a.st) := HKa3.out.cell 4
    have x5 : w3.cell? ⟨w.heap.size, 5, none⟩ = some (.int .i64 a.en) := HKa3.out.cell 5
    have x6 : w3.cell? ⟨w.heap.size, 6, none⟩ = some (.int .i64 a.made) := HKa3.out.cell 6
    have x7 : w3.cell? ⟨w.heap.size, 7, none⟩ = some (.int .i64 a.kind) := HKa3.out.cell 7
    have x8 : w3.cell? ⟨w.heap.size, 8, none⟩ = some (.string (bstr a.team)) := HKa3.out.cell 8
    have y0 : w3.cell? ⟨w.heap.size + 1, 0, none⟩ = some (.string (bstr b.id)) := HKb3.out.cell 0
    have y1 : w3.cell? ⟨w.heap.size + 1, 1, none⟩ = some (.string (bstr b.pre)) := HKb3.out.cell 1
    have y2 : w3.cell? ⟨w.heap.size + 1, 2, none⟩ = some (.int .i64 b.frm) := HKb3.out.cell 2
    have y3 : w3.cell? ⟨w.heap.size + 1, 3, none⟩ = some (.int .i64 b.to) := HKb3.out.cell 3
    have y4 : w3.cell? ⟨w.heap.size + 1, 4, none⟩ = some (.int .i64 b.st) := HKb3.out.cell 4
    have y5 : w3.cell? ⟨w.heap.size + 1, 5, none⟩ = some (.int .i64 b.en) := HKb3.out.cell 5
    have y6 : w3.cell? ⟨w.heap.size + 1, 6, none⟩ = some (.int .i64 b.made) := HKb3.out.cell 6
    have y7 : w3.cell? ⟨w.heap.size + 1, 7, none⟩ = some (.int .i64 b.kind) := HKb3.out.cell 7
    have y8 : w3.cell? ⟨w.heap.size + 1, 8, none⟩ = some (.string (bstr b.team)) := HKb3.out.cell 8
    go_wp2_with fail
    refine (HNR.out _).mono ?_
    rintro e w4 ⟨rfl, hb⟩
    have HB4 := Lib.hid (HB3.out.trans (hb.mono HB3.out.size))
    clear hb x0 x1 x2 x3 x4 x5 x6 x7 x8 y0 y1 y2 y3 y4 y5 y6 y7 y8
    go_wp2_with fail
    refine (AWK.out _).mono ?_
    rintro e w5 ⟨rfl, hb⟩
    have HB5 := Lib.hid (HB4.out.trans (hb.mono HB4.out.size))
    clear hb
    go_wp2_with fail
    go_ret
    exact ⟨rfl, HB5.out⟩
end Go.Proofs.YtobgkmkapknppaaDoor
