/-
  The law 'RightsCountsMatchSpec' walked: it returns true.
-/
import Derived.Test.YtmlhpemgpndppaaDoorAsk
import Derived.Test.YtmlhpemgpndppaaDoorVwr
import Derived.Test.YtmlhpemgpndppaaDoorAwake10
namespace Go.Proofs.YtmlhpemgpndppaaDoor
open Go.RowKit
set_option linter.unusedVariables false
set_option linter.unusedSimpArgs false

set_option maxRecDepth 100000 in
set_option maxHeartbeats 4000000 in
theorem countsLaw_any (v0 : Value) (t : List Team) (v1 : Value) (l : List Rgt) (cs2 : Array Value) (vw2 : Vwr) (cs3 : Array Value) (c : Cap) (v4 : Value) (at_ : Int) (w : World) (h0 : (Rp.sl teamRp).ok w (· < w.heap.size) [v0] t) (f0 : (Rp.sl teamRp).fits t) (h1 : (Rp.sl rgtRp).ok w (· < w.heap.size) [v1] l) (f1 : (Rp.sl rgtRp).fits l) (h2 : vwrRp.ok w (· < w.heap.size) cs2.toList vw2) (f2 : vwrRp.fits vw2) (h3 : capRp.ok w (· < w.heap.size) cs3.toList c) (f3 : capRp.fits c) (h4 : (Rp.int .i64).ok w (· < w.heap.size) [v4] at_) (f4 : (Rp.int .i64).fits at_) :
    Calls Tryd.prog 3 #[v0, v1, .agg cs2, .agg cs3, v4] w fun e w' => e = .returned (.bool true) ∧ Below w.heap.size w w' := by
  obtain ⟨who, house⟩ := vw2
  obtain ⟨e2, hwl0⟩ := vwr_open h2
  obtain rfl : cs2 = #[.string (bstr who), .bool house] := by apply Array.toList_inj.1; rw [e2]; rfl
  have hwl : who.length ≤ 9223372036854775807 := hwl0
  clear h2 f2 e2 hwl0
  obtain ⟨e3, hck0, _⟩ := cap_open h3
  obtain rfl : cs3 = #[.string (bstr c.key), .int .i64 c.time] := by apply Array.toList_inj.1; rw [e3]; rfl
  have hck : c.key.length ≤ 9223372036854775807 := hck0
  clear h3 f3 e3 hck0
  obtain ⟨e4, hw_at_⟩ := h4
  injection e4 with e4
  subst e4
  clear f4
  have H0 := Lib.hid h0
  clear h0 f0
  have H1 := Lib.hid h1
  clear h1 f1
  have hl0 := (Below.refl w.heap.size _).alloc (Nat.le_refl _) (.cells #[.string (bstr who), .bool house] 25)
  have hl1 := (Below.refl (w.alloc (.cells #[.string (bstr who), .bool house] 25)).heap.size _).alloc (Nat.le_refl _) (.cells #[.string (bstr c.key), .int .i64 c.time] 27)
  have HBA : Hid (Below w.heap.size w ((w.alloc (.cells #[.string (bstr who), .bool house] 25)).alloc (.cells #[.string (bstr c.key), .int .i64 c.time] 27))) := Lib.hid ((hl0).trans (hl1.mono (by simp <;> omega)))
  have hk0 : Blk ((w.alloc (.cells #[.string (bstr who), .bool house] 25)).alloc (.cells #[.string (bstr c.key), .int .i64 c.time] 27)) (w.heap.size) 25 [.string (bstr who), .bool house] := by
    have h := (Blk.new w 25 [.string (bstr who), .bool house]).same (same_below hl1) (by simp <;> omega)
    simpa only [World.size_alloc] using h
  have HKVA := Lib.hid hk0
  have hk1 : Blk ((w.alloc (.cells #[.string (bstr who), .bool house] 25)).alloc (.cells #[.string (bstr c.key), .int .i64 c.time] 27)) (w.heap.size + 1) 27 [.string (bstr c.key), .int .i64 c.time] := by
    have h := Blk.new (w.alloc (.cells #[.string (bstr who), .bool house] 25)) 27 [.string (bstr c.key), .int .i64 c.time]
    simpa only [World.size_alloc] using h
  have HKCA := Lib.hid hk1
  clear hl0 hk0 hl1 hk1
  go_enter Tryd.func3, Tryd.ntmps3
  have c0 : ((w.alloc (.cells #[.string (bstr who), .bool house] 25)).alloc (.cells #[.string (bstr c.key), .int .i64 c.time] 27)).cell? ⟨w.heap.size + 1, 0, none⟩ = some (.string (bstr c.key)) := HKCA.out.cell 0
  have c1 : ((w.alloc (.cells #[.string (bstr who), .bool house] 25)).alloc (.cells #[.string (bstr c.key), .int .i64 c.time] 27)).cell? ⟨w.heap.size + 1, 1, none⟩ = some (.int .i64 c.time) := HKCA.out.cell 1
  go_wp2_with fail
  clear c0 c1
  generalize ((w.alloc (.cells #[.string (bstr who), .bool house] 25)).alloc (.cells #[.string (bstr c.key), .int .i64 c.time] 27)) = wA at *
  refine (rightTop_any v0 t v1 l c at_ wA (Rp.ext _ H0.out HBA.out) (Rp.ext _ H1.out HBA.out) hck).mono ?_
  rintro e w3 ⟨rfl, hb⟩
  have HB3 := Lib.hid (HBA.out.trans (hb.mono HBA.out.size))
  have HKV3 := Lib.hid (HKVA.out.same (same_below hb) HKVA.out.lt)
  have HKC3 := Lib.hid (HKCA.out.same (same_below hb) HKCA.out.lt)
  clear hb HBA HKVA HKCA
  have c0 : w3.cell? ⟨w.heap.size + 1, 0, none⟩ = some (.string (bstr c.key)) := HKC3.out.cell 0
  have c1 : w3.cell? ⟨w.heap.size + 1, 1, none⟩ = some (.int .i64 c.time) := HKC3.out.cell 1
  go_wp2_with fail
  clear c0 c1
  refine (hRightTop_any v0 t v1 l c at_ w3 (Rp.ext _ H0.out HB3.out) (Rp.ext _ H1.out HB3.out) hck).mono ?_
  rintro e w4 ⟨rfl, hb⟩
  have HB4 := Lib.hid (HB3.out.trans (hb.mono HB3.out.size))
  have HKV4 := Lib.hid (HKV3.out.same (same_below hb) HKV3.out.lt)
  have HKC4 := Lib.hid (HKC3.out.same (same_below hb) HKC3.out.lt)
  clear hb HB3 HKV3 HKC3
  generalize rightTop t l c at_ = rt at *
  obtain ⟨r1, r2, r3⟩ := rt
  go_wp2_with fail
  refine (checkRights_any v0 t v1 l w4 (Rp.ext _ H0.out HB4.out) (Rp.ext _ H1.out HB4.out)).mono ?_
  rintro e w5 ⟨rfl, hb⟩
  have HB5 := Lib.hid (HB4.out.trans (hb.mono HB4.out.size))
  have HKV5 := Lib.hid (HKV4.out.same (same_below hb) HKV4.out.lt)
  have HKC5 := Lib.hid (HKC4.out.same (same_below hb) HKC4.out.lt)
  clear hb HB4 HKV4 HKC4
  go_wp2_with fail
  refine (hCheckRights_any v0 t v1 l w5 (Rp.ext _ H0.out HB5.out) (Rp.ext _ H1.out HB5.out)).mono ?_
  rintro e w6 ⟨rfl, hb⟩
  have HB6 := Lib.hid (HB5.out.trans (hb.mono HB5.out.size))
  have HKV6 := Lib.hid (HKV5.out.same (same_below hb) HKV5.out.lt)
  have HKC6 := Lib.hid (HKC5.out.same (same_below hb) HKC5.out.lt)
  clear hb HB5 HKV5 HKC5
  generalize rightsFault t l = rf at *
  have v0 : w6.cell? ⟨w.heap.size, 0, none⟩ = some (.string (bstr who)) := HKV6.out.cell 0
  have v1 : w6.cell? ⟨w.heap.size, 1, none⟩ = some (.bool house) := HKV6.out.cell 1
  have c0 : w6.cell? ⟨w.heap.size + 1, 0, none⟩ = some (.string (bstr c.key)) := HKC6.out.cell 0
  have c1 : w6.cell? ⟨w.heap.size + 1, 1, none⟩ = some (.int .i64 c.time) := HKC6.out.cell 1
  go_wp2_with fail

  refine (mayTop_any _ t _ l who house c at_ w6 (Rp.ext _ H0.out HB6.out) (Rp.ext _ H1.out HB6.out) hck hwl).mono ?_
  rintro e w7 ⟨rfl, hb⟩
  have HB7 := Lib.hid (HB6.out.trans (hb.mono HB6.out.size))
  have HKV7 := Lib.hid (HKV6.out.same (same_below hb) HKV6.out.lt)
  have HKC7 := Lib.hid (HKC6.out.same (same_below hb) HKC6.out.lt)
  clear hb HB6 HKV6 HKC6
  clear c0 c1
  have m0 : w7.cell? ⟨w.heap.size, 0, none⟩ = some (.string (bstr who)) := HKV7.out.cell 0
  have m1 : w7.cell? ⟨w.heap.size, 1, none⟩ = some (.bool house) := HKV7.out.cell 1
  have c0 : w7.cell? ⟨w.heap.size + 1, 0, none⟩ = some (.string (bstr c.key)) := HKC7.out.cell 0
  have c1 : w7.cell? ⟨w.heap.size + 1, 1, none⟩ = some (.int .i64 c.time) := HKC7.out.cell 1
  go_wp2_with fail
  refine (hMayTop_any _ t _ l who house c at_ w7 (Rp.ext _ H0.out HB7.out) (Rp.ext _ H1.out HB7.out) hck hwl).mono ?_
  rintro e w8 ⟨rfl, hb⟩
  have HB8 := Lib.hid (HB7.out.trans (hb.mono HB7.out.size))
  have HKV8 := Lib.hid (HKV7.out.same (same_below hb) HKV7.out.lt)
  have HKC8 := Lib.hid (HKC7.out.same (same_below hb) HKC7.out.lt)
  clear hb HB7 HKV7 HKC7
  generalize mayTop t l who house c at_ = mt at *
  obtain ⟨y1, y2⟩ := mt
  go_wp2_with fail
  refine (awake_any _).mono ?_
  rintro e w9 ⟨rfl, hb⟩
  have HB9 := Lib.hid (HB8.out.trans (hb.mono HB8.out.size))
  clear hb HB8 
  go_wp2_with fail
  go_ret
  exact ⟨rfl, HB9.out⟩
end Go.Proofs.YtmlhpemgpndppaaDoor
