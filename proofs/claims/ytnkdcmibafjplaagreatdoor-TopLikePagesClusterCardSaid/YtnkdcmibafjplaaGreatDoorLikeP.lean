/-
  'Safe' of package page; the groups of texts with their blanks made one are those of the texts.
-/
import Derived.Test.YtnkdcmibafjplaaGreatDoorSaidAll
import Derived.Test.YtnkdcmibafjplaaGreatDoorClusT
import Derived.Test.YtnkdcmibafjplaaGreatDoorAClus
namespace Go.Proofs.YtnkdcmibafjplaaGreatDoor
open Go.RowKit
set_option linter.unusedVariables false
set_option linter.unusedSimpArgs false

set_option maxRecDepth 100000 in
set_option maxHeartbeats 1000000 in
theorem safeTop_any (t : List UInt8) (w : World) (ht : t.length ≤ 20000) : Calls Tryz.prog 7 #[.string (bstr t)] w fun e w' => e = .returned (.tuple #[.string (bstr (safeL t)), .int .i64 0]) ∧ Below w.heap.size w w' := by
  have h1 : ¬ (200000 : Int) < ((bstr t).size : Int) := by rw [bstr_size]; omega
  have h2 : ¬ (200000 : Int) < ((bstr (safeL t)).size : Int) := by rw [bstr_size]; have := (safeL_len t).2; omega
  have h3 : (bstr t).size ≤ 200000 := by rw [bstr_size]; omega
  have h4 : (bstr (safeL t)).size ≤ 200000 := by rw [bstr_size]; have := (safeL_len t).2; omega
  have HC := Lib.hid (safe_any t w ht)
  generalize safeL t = e at *
  go_enter Tryz.func7, Tryz.ntmps7
  go_wp2_with fail
  refine HC.out.mono ?_
  rintro x w1 ⟨rfl, hb⟩
  have HB := Lib.hid hb
  clear hb
  go_wp2_with fail
  go_ret2
  exact ⟨rfl, HB.out⟩
theorem u8_lt {w : World} {g n c : Nat} {bs : List UInt8} (h : (Rp.sl Rp.u8).ok w (fun _ => True) [.slice (some ⟨g, 0, none⟩) n c] bs) (hb : bs ≠ []) : (Rp.sl Rp.u8).ok w (· < w.heap.size) [.slice (some ⟨g, 0, none⟩) n c] bs := by
  have hg : g < w.heap.size := by
    obtain ⟨ad, u, e, _, _, hc⟩ := Rp.sl_at1 rfl h (k := 0) (List.length_pos_iff.2 hb)
    injection e with e
    subst e
    have := World.block_lt_of_cell? w _ hc
    rwa [add_block] at this
  obtain ⟨A, c', e, h1, h2, h3, h4⟩ := h
  injection e with e
  injection e with e1 e2 e3
  subst e1 e2 e3
  refine ⟨_, _, rfl, h1, h2, h3, fun k hk => ?_⟩
  obtain ⟨ad, us, e1, _, e2, e3⟩ := h4 k hk
  injection e1 with e1
  subst e1
  exact ⟨_, us, rfl, hg, e2, e3⟩
theorem shs_tidy (ls : List (List UInt8)) (n : Int) : shs (ls.map tidyL) n = shs ls n := by
  unfold shs
  rw [List.map_map]
  refine List.map_congr_left fun t _ => ?_
  show shL (tidyL t) n.toNat = shL t n.toNat
  unfold shL
  rw [tidy_words]
theorem clF_tidy {ls : List (List UInt8)} {n num den : Int} (h : clF ls n num den = 0) : clF (ls.map tidyL) n num den = 0 := by
  obtain ⟨h1, h2, h3, h4, h5⟩ := clF_good h
  have hl : ∀ t ∈ ls.map tidyL, t.length ≤ 20000 := by
    intro t ht
    obtain ⟨s, hs, rfl⟩ := List.mem_map.1 ht
    exact Nat.le_trans (tidyL_len s) (h1 s hs)
  rw [clF_range hl (by rw [List.length_map]; exact h2)]
  rw [clF_range h1 h2] at h
  exact h
theorem clO_tidy {ls : List (List UInt8)} {n num den : Int} (h : clF ls n num den = 0) : clO (ls.map tidyL) n num den = clO ls n num den := by
  unfold clO
  rw [if_pos h, if_pos (clF_tidy h)]
  unfold clG
  rw [shs_tidy, List.length_map]
theorem cat_page (e : List UInt8) : (⟨#[60, 112, 62]⟩ : ByteArray) ++ bstr e ++ (⟨#[60, 47, 112, 62]⟩ : ByteArray) = bstr (pgL e) := by
  show bstr [60, 112, 62] ++ bstr e ++ bstr [60, 47, 112, 62] = _
  rw [bstr_addJ, bstr_addJ]
  rfl
end Go.Proofs.YtnkdcmibafjplaaGreatDoor
