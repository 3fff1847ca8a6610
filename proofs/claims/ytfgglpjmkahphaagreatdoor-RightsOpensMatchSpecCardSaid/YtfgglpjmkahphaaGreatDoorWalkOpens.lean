/-
  The law 'RightsOpensMatchSpec' walked: it returns true.
-/
import Derived.Test.YtfgglpjmkahphaaGreatDoorHOpens
import Derived.Test.YtfgglpjmkahphaaGreatDoorHSpans
import Derived.Test.YtfgglpjmkahphaaGreatDoorVwr
import Derived.Test.YtfgglpjmkahphaaGreatDoorAwake10
namespace Go.Proofs.YtfgglpjmkahphaaGreatDoor
open Go.RowKit
set_option linter.unusedVariables false
set_option linter.unusedSimpArgs false

set_option maxRecDepth 100000 in
set_option maxHeartbeats 4000000 in
theorem opensLaw_any (v0 : Value) (t : List Team) (v1 : Value) (l : List Rgt) (cs2 : Array Value) (vw2 : Vwr) (cs3 : Array Value) (c : Cap) (v4 : Value) (at_ : Int) (w : World) (h0 : (Rp.sl teamRp).ok w (· < w.heap.size) [v0] t) (f0 : (Rp.sl teamRp).fits t) (h1 : (Rp.sl rgtRp).ok w (· < w.heap.size) [v1] l) (f1 : (Rp.sl rgtRp).fits l) (h2 : vwrRp.ok w (· < w.heap.size) cs2.toList vw2) (f2 : vwrRp.fits vw2) (h3 : capRp.ok w (· < w.heap.size) cs3.toList c) (f3 : capRp.fits c) (h4 : (Rp.int .i64).ok w (· < w.heap.size) [v4] at_) (f4 : (Rp.int .i64).fits at_) :
    Calls Tryz.prog 3 #[v0, v1, .agg cs2, .agg cs3, v4] w fun e w' => e = .returned (.bool true) ∧ Below w.heap.size w w' := by
  obtain ⟨who, house⟩ := vw2
  obtain ⟨e2, hwl0⟩ := vwr_open h2
  obtain rfl : cs2 = #[.string (bstr who), .bool house] := by apply Array.toList_inj.1; rw [e2]; rfl
  have hwl : who.length ≤ 9223372036854775807 := hwl0
  clear h2 f2 e2 hwl0
  obtain ⟨e3, hck0, _⟩ := cap_open h3
  obtain rfl : cs3 = #[.string (bstr c.key), .int .i64 c.time] := by apply Array.toList_inj.1; rw [e3]; rfl
  have hck : c.key.length ≤ 9223372036854775807 := hck0
  clear h3 f3 e3 hck0
  obtain ⟨e4, hw_at_⟩ := h4
  injection e4 with e4
  subst e4
  clear f4
  have H0 := Lib.hid h0
  clear h0 f0
  have H1 := Lib.hid h1
  clear h1 f1
  have hl0 := (Below.refl w.heap.size _).alloc (Nat.le_refl _) (.cells #[.string (bstr who), .bool house] 25)
  have hl1 := (Below.refl (w.alloc (.cells #[.string (bstr who), .bool house] 25)).heap.size _).alloc (Nat.le_refl _) (.cells #[.string (bstr c.key), .int .i64 c.time] 27)
  have HBA : Hid (Below w.heap.size w ((w.alloc (.cells #[.string (bstr who), .bool house] 25)).alloc (.cells #[.string (bstr c.key), .int .i64 c.time] 27))) := Lib.hid ((hl0).trans (hl1.mono (by simp <;> omega)))
  have hk0 : Blk ((w.alloc (.cells #[.string (bstr who), .bool house] 25)).alloc (.cells #[.string (bstr c.key), .int .i64 c.time] 27)) (w.heap.size) 25 [.string (bstr who), .bool house] := by
    have h := (Blk.new w 25 [.string (bstr who), .bool house]).same (same_below hl1) (by simp <;> omega)
    simpa only [World.size_alloc] using h
  have HKVA := Lib.hid hk0
  have hk1 : Blk ((w.alloc (.cells #[.string (bstr who), .bool house] 25)).alloc (.cells #[.string (bstr c.key), .int .i64 c.time] 27)) (w.heap.size + 1) 27 [.string (bstr c.key), .int .i64 c.time] := by
    have h := Blk.new (w.alloc (.cells #[.string (bstr who), .bool house] 25)) 27 [.string (bstr c.key), .int .i64 c.time]
    simpa only [World.size_alloc] using h
  have HKCA := Lib.hid hk1
  clear hl0 hk0 hl1 hk1
  go_enter Tryz.func3, Tryz.ntmps3
  have m0 : ((w.alloc (.cells #[.string (bstr who), .bool house] 25)).alloc (.cells #[.string (bstr c.key), .int .i64 c.time] 27)).cell? ⟨w.heap.size, 0, none⟩ = some (.string (bstr who)) := HKVA.out.cell 0
  have m1 : ((w.alloc (.cells #[.string (bstr who), .bool house] 25)).alloc (.cells #[.string (bstr c.key), .int .i64 c.time] 27)).cell? ⟨w.heap.size, 1, none⟩ = some (.bool house) := HKVA.out.cell 1
  have c0 : ((w.alloc (.cells #[.string (bstr who), .bool house] 25)).alloc (.cells #[.string (bstr c.key), .int .i64 c.time] 27)).cell? ⟨w.heap.size + 1, 0, none⟩ = some (.string (bstr c.key)) := HKCA.out.cell 0
  have c1 : ((w.alloc (.cells #[.string (bstr who), .bool house] 25)).alloc (.cells #[.string (bstr c.key), .int .i64 c.time] 27)).cell? ⟨w.heap.size + 1, 1, none⟩ = some (.int .i64 c.time) := HKCA.out.cell 1
  go_wp2_with fail
  clear m0 m1 c0 c1
  generalize ((w.alloc (.cells #[.string (bstr who), .bool house] 25)).alloc (.cells #[.string (bstr c.key), .int .i64 c.time] 27)) = wA at *
  refine (opens_any _ t _ l who house c at_ wA (Rp.ext _ H0.out HBA.out) (Rp.ext _ H1.out HBA.out) hck hwl).mono ?_
  rintro e w3 ⟨r1, rfl, p1, q1, hb⟩
  have HB3 := Lib.hid (HBA.out.trans (hb.mono HBA.out.size))
  have HKV3 := Lib.hid (HKVA.out.same (same_below hb) HKVA.out.lt)
  have HKC3 := Lib.hid (HKCA.out.same (same_below hb) HKCA.out.lt)
  have HP1 := Lib.hid p1
  have HQ1 := Lib.hid q1
  clear p1 q1
  clear hb HBA HKVA HKCA
  have m0 : w3.cell? ⟨w.heap.size, 0, none⟩ = some (.string (bstr who)) := HKV3.out.cell 0
  have m1 : w3.cell? ⟨w.heap.size, 1, none⟩ = some (.bool house) := HKV3.out.cell 1
  have c0 : w3.cell? ⟨w.heap.size + 1, 0, none⟩ = some (.string (bstr c.key)) := HKC3.out.cell 0
  have c1 : w3.cell? ⟨w.heap.size + 1, 1, none⟩ = some (.int .i64 c.time) := HKC3.out.cell 1
  go_wp2_with fail
  clear m0 m1 c0 c1
  refine (hOpens_any _ t _ l who house c at_ w3 (Rp.ext _ H0.out HB3.out) (Rp.ext _ H1.out HB3.out) hck hwl).mono ?_
  rintro e w4 ⟨r2, rfl, p2, q2, hb⟩
  have HB4 := Lib.hid (HB3.out.trans (hb.mono HB3.out.size))
  have HKV4 := Lib.hid (HKV3.out.same (same_below hb) HKV3.out.lt)
  have HKC4 := Lib.hid (HKC3.out.same (same_below hb) HKC3.out.lt)
  have HRR : Hid (r1 = r2) := Lib.hid (by
    by_cases h : opF t l who c at_ = 0
    · have hr : 0 ≤ at_ := by
        unfold opF at h
        split at h
        · rename_i h'; exact absurd h h'
        · split at h
          · cases h
          · rename_i h'
            cases q : withinB at_ 0 253402300799 with
            | true => exact (of_decide_eq_true q : 0 ≤ at_ ∧ at_ ≤ 253402300799).1
            | false => exact absurd q h'
      exact isOpen_uniq hr (HP1.out h) (p2 h)
    · rw [HQ1.out h, q2 h])
  clear p2 q2
  clear hb HB3 HKV3 HKC3
  rw [← HRR.out]
  clear HRR HP1 HQ1
  generalize opF t l who c at_ = f at *
  have m0 : w4.cell? ⟨w.heap.size, 0, none⟩ = some (.string (bstr who)) := HKV4.out.cell 0
  have m1 : w4.cell? ⟨w.heap.size, 1, none⟩ = some (.bool house) := HKV4.out.cell 1
  have c0 : w4.cell? ⟨w.heap.size + 1, 0, none⟩ = some (.string (bstr c.key)) := HKC4.out.cell 0
  have c1 : w4.cell? ⟨w.heap.size + 1, 1, none⟩ = some (.int .i64 c.time) := HKC4.out.cell 1
  have hff : (f != f) = false := by simp
  have hrr : (r1 != r1) = false := by simp
  go_wp2_with fail
  clear m0 m1 c0 c1
  try clear hff hrr
  refine (spans_any _ t _ l who house c w4 (Rp.ext _ H0.out HB4.out) (Rp.ext _ H1.out HB4.out) hck hwl).mono ?_
  rintro e w5 ⟨vx, xs, rfl, hx, sx, nx, _, hb⟩
  have HB5 := Lib.hid (HB4.out.trans (hb.mono HB4.out.size))
  have HKV5 := Lib.hid (HKV4.out.same (same_below hb) HKV4.out.lt)
  have HKC5 := Lib.hid (HKC4.out.same (same_below hb) HKC4.out.lt)
  have HX5 := Lib.hid hx
  have HSX := Lib.hid sx
  have HNX := Lib.hid nx
  clear hx sx nx
  clear hb HB4 HKV4 HKC4
  have m0 : w5.cell? ⟨w.heap.size, 0, none⟩ = some (.string (bstr who)) := HKV5.out.cell 0
  have m1 : w5.cell? ⟨w.heap.size, 1, none⟩ = some (.bool house) := HKV5.out.cell 1
  have c0 : w5.cell? ⟨w.heap.size + 1, 0, none⟩ = some (.string (bstr c.key)) := HKC5.out.cell 0
  have c1 : w5.cell? ⟨w.heap.size + 1, 1, none⟩ = some (.int .i64 c.time) := HKC5.out.cell 1
  go_wp2_with fail
  clear m0 m1 c0 c1
  refine (hSpans_any _ t _ l who house c w5 (Rp.ext _ H0.out HB5.out) (Rp.ext _ H1.out HB5.out) hck hwl).mono ?_
  rintro e w6 ⟨vy, ys, rfl, hy, sy, ny, _, hb⟩
  have HB6 := Lib.hid (HB5.out.trans (hb.mono HB5.out.size))
  have HKV6 := Lib.hid (HKV5.out.same (same_below hb) HKV5.out.lt)
  have HKC6 := Lib.hid (HKC5.out.same (same_below hb) HKC5.out.lt)
  have HXY : Hid (xs = ys) := Lib.hid (by
    by_cases h : askF t l who c = 0
    · exact spOk_uniq (HSX.out h) (sy h)
    · rw [HNX.out h, ny h])
  have HX6 := Lib.hid (Rp.ext _ HX5.out hb)
  have HY6 : Hid ((Rp.sl stRp).ok w6 (· < w6.heap.size) [vy] xs) := Lib.hid (by rw [HXY.out]; exact hy)
  clear hy sy ny HX5 HXY
  clear hb HB5 HKV5 HKC5
  generalize askF t l who c = g at *
  clear HSX HNX
  go_wp2_with fail
  refine (eqSt_is vx vy xs w6 _ _ HX6.out HY6.out).mono ?_
  rintro e w7 ⟨rfl, n, rfl⟩
  have HB7 := Lib.hid (below_drewN HB6.out n)
  clear HB6 HX6 HY6
  generalize w6.drewN n = w7 at *
  go_wp2_with fail
  refine (awake_any _).mono ?_
  rintro e w8 ⟨rfl, hb⟩
  have HB8 := Lib.hid (HB7.out.trans (hb.mono HB7.out.size))
  clear hb
  go_wp2_with fail
  go_ret
  exact ⟨rfl, HB8.out⟩
end Go.Proofs.YtfgglpjmkahphaaGreatDoor
