/-
  ephemera/care.places walked.
-/
import Derived.Test.YtdeeiifcjbmmiaaDoorSortSite
namespace Go.Proofs.YtdeeiifcjbmmiaaDoor
open Go.RowKit Go.Sort
set_option linter.unusedVariables false
set_option linter.unusedSimpArgs false

set_option maxRecDepth 100000 in
set_option maxHeartbeats 8000000 in
theorem places_any (v : Value) (l : List Site) (item : List UInt8) (many : Nat) (w : World) (h : (Rp.sl siteRp).ok w (· < w.heap.size) [v] l) (hn : ∀ x ∈ l, x.name.length ≤ 40) (hs : l.Pairwise (fun a b => slt a.name b.name = true)) (hl0 : 0 < l.length) (hl : l.length ≤ 50) (hm1 : 1 ≤ many) (hm2 : many ≤ 50) (hi : item.length ≤ 1000000) :
    Calls Tryd.prog 18 #[v, .string (bstr item), .int .i64 many] w (PlPost l item many w) := by
  have hn2 : ∀ x ∈ l, x.name.length ≤ 1000 := fun x hx => by have := hn x hx; omega
  have HR := Lib.hid (sbs_rise hn2 hs)
  have HF := Lib.hid (sbs_flat hn2)
  have HSL : Hid ((sbs l).length = l.length) := Lib.hid (by unfold sbs; rw [List.length_map])
  have hba := (Below.refl w.heap.size w).alloc (Nat.le_refl _) (.cells #[.string (bstr item)] 9)
  have HBA := Lib.hid hba
  have HBK : Hid (Blk (w.alloc (.cells #[.string (bstr item)] 9)) w.heap.size 9 [.string (bstr item)]) := Lib.hid (Blk.new w _ _)
  have H := Lib.hid (Rp.ext _ h hba)
  have HN := Lib.hid hn
  clear h hba hn hn2 hs
  go_enter Tryd.func18, Tryd.ntmps18
  go_wp2_with fail
  refine (cloneSite_any v l _ H.out (by omega)).mono ?_
  rintro e w1 ⟨v1, rfl, hO1, hb1⟩
  have HBK1 := Lib.hid (HBK.out.same (same_below hb1) HBK.out.lt)
  have HB1 := Lib.hid (below_tr2 HBA.out hb1 HBA.out.size)
  rw [← HF.out, ← HSL.out] at hO1
  have HO1 := Lib.hid hO1
  have hgl : w.heap.size + 1 ≤ w1.heap.size := by have := hb1.size; simp at this; omega
  clear hb1 hO1 HBA HBK H
  go_wp2_with fail
  refine (sortSite_any v1 (sbs l) item w.heap.size (w.heap.size + 1) w1 (by simpa only [World.size_alloc] using HO1.out) (by rw [HSL.out]; omega) ⟨Nat.lt_succ_self _, hgl⟩ hi (HBK1.out.cell 0) (ord_key HR.out)).mono ?_
  rintro e w2 ⟨rfl, d, hp, hsd, hO2, hb2⟩
  have hord := ord_unique (ord_of_sorted HR.out hp hsd) (insAll_ord _ HR.out)
  rw [hord] at hO2
  have hlen := insAll_len item _ HR.out
  rw [HSL.out] at hlen hO2
  have HB2 := Lib.hid ((⟨hb2.os.trans HB1.out.os, hb2.tape.trans HB1.out.tape, hb2.output.trans HB1.out.output, Nat.le_trans HB1.out.size hb2.size, fun k hk => (hb2.block k (by omega)).trans (HB1.out.block k hk)⟩ : Below w.heap.size w w2))
  have HPL : Hid (plL l item many = ((insAll item (sbs l)).take many).map (·.1.name)) := Lib.hid rfl
  have hmem : ∀ x ∈ insAll item (sbs l), x.1.name.length ≤ 40 := fun x hx => by
    have := (insAll_ord (item := item) _ HR.out).1.mem_iff.1 hx
    unfold sbs at this
    obtain ⟨y, hy, rfl⟩ := List.mem_map.1 this
    rw [toSb_val (by have := HN.out y hy; omega)]
    exact HN.out y hy
  generalize insAll item (sbs l) = out at *
  have HM := Lib.hid hmem
  have HO2 := Lib.hid hO2
  have HLEN := Lib.hid hlen
  clear hp hsd hord hO2 hb2 hmem hlen HR HF HSL HN HO1 HB1 HBK1 hgl
  have hform := own_form HO2.out
  obtain ⟨A, c, rfl, hc1, hc2, hgb⟩ := hform
  unfold maxLen at hc2
  obtain ⟨g, rfl⟩ : ∃ g, A = some ⟨g, 0, none⟩ := by
    rcases HO2.out.2 with ⟨_, h⟩ | ⟨g, cap, cur, e1, _⟩
    · omega
    · injection e1 with e1 _ _
      exact ⟨g, e1⟩
  obtain ⟨m, hm⟩ : ∃ m, m = min many l.length := ⟨_, rfl⟩
  have hmI : min (many : Int) (l.length : Int) = (m : Int) := by omega
  have hml : m ≤ l.length := by omega
  have hm50 : m ≤ 50 := by omega
  have hmc : (m : Int) ≤ (c : Int) := by omega
  have HPT : Hid (plL l item many = (out.take m).map (·.1.name)) := Lib.hid (by
    rw [HPL.out, hm]
    congr 1
    by_cases h : many ≤ l.length
    · rw [Nat.min_eq_left h]
    · rw [Nat.min_eq_right (by omega), List.take_of_length_le (by rw [HLEN.out]; omega), List.take_of_length_le (by rw [HLEN.out]; exact Nat.le_refl _)])
  clear hm HPL hgb hl0
  go_wp2_with fail
  go_loopw [8, 23] (fun vo vk wr => ∃ k : Nat, k ≤ m ∧ vk = .int .i64 k ∧ Hid (wr.ownsRow w2.heap.size 9 1 vo k ((out.take k).map fun x => .string (bstr x.1.name))) ∧ Hid (Below w2.heap.size w2 wr)) (fun _ vk _ => m - (intOf vk).toNat)
  case atStart => exact ⟨0, Nat.zero_le _, rfl, Lib.hid (World.ownsRow_nil _ _ _ _), Below.refl _ _⟩
  case round =>
    obtain ⟨k, hk, rfl, HO, HB⟩ := hrel
    by_cases hkm : k < m
    · have hkl : k < out.length := by rw [HLEN.out]; omega
      have hrow := own_blwP HO2.out HB.out
      have hcell : ∀ j (hj : j < 3), wr.cell? ⟨g, k * 3 + j, none⟩ = (sbCells out[k])[j]? := by
        intro j hj
        have hfl := flat_at (f := sbCells) (sz := 3) (fun _ => rfl) out k hkl
        have h1 : (out.flatMap sbCells)[k * 3 + j]? = (sbCells out[k])[j]? := by
          rw [← hfl, List.getElem?_take_of_lt hj, List.getElem?_drop]
        rw [← h1]
        have hlt : k * 3 + j < (out.flatMap sbCells).length := by rw [sb_flat_len]; omega
        have h2 := hrow.cells (g := g) rfl (k * 3 + j) _ (List.getElem?_eq_getElem hlt)
        rw [show (⟨g, 0, none⟩ : Addr).add (k * 3 + j) = ⟨g, k * 3 + j, none⟩ from by unfold Addr.add; split <;> simp_all] at h2
        rw [h2, List.getElem?_eq_getElem hlt]
      have HT := Lib.hid (List.take_succ_eq_append_getElem hkl)
      have hz := HM.out _ (List.getElem_mem hkl)
      obtain ⟨x, hx⟩ : ∃ x, out[k] = x := ⟨_, rfl⟩
      rw [hx] at hcell hz HT
      have q0 : wr.cell? ⟨g, k * 3, none⟩ = some (.string (bstr x.1.name)) := hcell 0 (by decide)
      have q1 : wr.cell? ⟨g, k * 3 + 1, none⟩ = some (.int .i64 x.1.weight) := hcell 1 (by decide)
      have q2 : wr.cell? ⟨g, k * 3 + 2, none⟩ = some (.int .i64 x.1.room) := hcell 2 (by decide)
      have HBA := Lib.hid (HB.out.alloc HB.out.size (.cells #[.string (bstr x.1.name), .int .i64 x.1.weight, .int .i64 x.1.room] 39))
      have HOA := Lib.hid (HO.out.alloc (.cells #[.string (bstr x.1.name), .int .i64 x.1.weight, .int .i64 x.1.room] 39))
      have hbz := HBA.out.size
      have HKX : Hid (Blk (wr.alloc (.cells #[.string (bstr x.1.name), .int .i64 x.1.weight, .int .i64 x.1.room] 39)) wr.heap.size 39 [.string (bstr x.1.name), .int .i64 x.1.weight, .int .i64 x.1.room]) := Lib.hid (Blk.new wr _ _)
      have r0 : _ = some (Value.string (bstr x.1.name)) := HKX.out.cell 0
      clear hcell hrow hx HO HB
      go_wp2_with (at_builtin; refine app_new (w := wr.alloc (.cells #[.string (bstr x.1.name), .int .i64 x.1.weight, .int .i64 x.1.room] 39)) rfl (.tmp 27) (.tmp 30) 23 rfl 9 (.string (bstr [])) 1 16 Tryd.underlying23 string_infoP rfl (by decide) _ HOA.out hbz rfl (by rw [World.size_alloc]; rfl) rfl (by decide) (by simp [Value.oneCell']) (by unfold maxLen; omega) (by omega) ?_; intro g4 c4 w4 HB4 HG4 HD4 HL4)
      have HO5 : Hid (w4.ownsRow w2.heap.size 9 1 (.slice (some ⟨g4, 0, none⟩) (k + 1) c4) (k + 1) ((out.take (k + 1)).map fun x => .string (bstr x.1.name))) := Lib.hid (by
        rw [HT.out, List.map_append]; exact HB4.out)
      go_roundw
      case rel => exact ⟨k + 1, by omega, by go_num, HO5, HD4.out _ HBA.out⟩
      case measure => simp [intOf]; omega
    · obtain rfl : k = m := by omega
      have HPP : Hid (PlPost l item many w (.returned u8) wr) := Lib.hid ⟨_, rfl, by
        have h := own_baseP HO.out HB2.out.size
        have hl : (out.take k).length = k := by rw [List.length_take, HLEN.out]; omega
        rw [HPT.out, List.length_map, List.map_map, hl]
        exact h, below_tr2 HB2.out HB.out HB2.out.size⟩
      go_wp2_with fail
      go_ret
      exact HPP.out
end Go.Proofs.YtdeeiifcjbmmiaaDoor
