/-
  'slices.ContainsFunc' as 'made' calls it, and 'strings.HasSuffix' at a line's end.
-/
import Derived.Test.YtofahmdjhpbecaaProg
import Derived.Test.YtofahmdjhpbecaaMadeFn
import Derived.Test.YtofahmdjhpbecaaAppPlain
namespace Go.Proofs.Ytofahmdjhpbecaa
open Go.RowKit
set_option linter.unusedVariables false
set_option linter.unusedSimpArgs false

def manyAt (l : List Ch) : Int := if (l.any fun c => decide ((400 : Int) < c.ls.length)) = true then 0 else -1
/-- Where the first such change lies, or -1. -/
def IdxPost (l : List Ch) (w : World) (e : Ending) (w' : World) : Prop :=
  ∃ i : Int, e = .returned (.int .i64 i) ∧ Hid (decide (i ≥ 0) = l.any fun c => decide ((400 : Int) < c.ls.length)) ∧ Below w.heap.size w w'
set_option maxRecDepth 100000 in
set_option maxHeartbeats 1000000 in
theorem indexFn_any (v : Value) (l : List Ch) (w : World) (h : (Rp.sl chRp).ok w (· < w.heap.size) [v] l) :
    Calls Try.prog 103 #[v, .func (.func 97) #[] #[]] w (IdxPost l w) := by
  obtain ⟨A, c, rfl, hl, hc, _⟩ := Rp.sl_open h
  unfold maxLen at hc
  have H := Lib.hid h
  clear h
  go_enter Try.func103, Try.ntmps103
  go_wp2_with fail
  go_loopw [5, 8] (fun _ i wr => ∃ k : Nat, k ≤ l.length ∧ i = .int .i64 k ∧ Hid (((l.take k).any fun c => decide ((400 : Int) < c.ls.length)) = false) ∧ Hid (Below w.heap.size w wr)) (fun _ i _ => l.length - (intOf i).toNat)
  case atStart => exact ⟨0, by omega, rfl, rfl, Below.refl _ _⟩
  case round =>
    obtain ⟨k, hk, rfl, HS, HB⟩ := hrel
    by_cases hlt : k < l.length
    · obtain ⟨ad, us, rfl, _, hadb, hu, hcell⟩ := Rp.sl_at (Rp.below _ H.out HB.out) hlt
      obtain ⟨vb, rfl, hvb, hw1⟩ := ch_open hu
      have c0 : wr.cell? (ad.add (k * 2)) = some (.int .i64 l[k].kind) := hcell 0 _ rfl
      have c1 := hcell 1 _ rfl
      rw [add_fld _ _ _ (by omega)] at c1
      change wr.cell? ⟨(ad.add (k * 2)).block, (ad.add (k * 2)).off + 1, none⟩ = some vb at c1
      obtain ⟨A3, c3, rfl, hl3, hc3, _⟩ := Rp.sl_open hvb
      rw [List.length_map] at hl3 c1
      unfold maxLen at hc3
      have HT : Hid (decide ((400 : Int) < l[k].ls.length) = false → ((l.take (k + 1)).any fun c => decide ((400 : Int) < c.ls.length)) = false) := Lib.hid (fun hd => by
        rw [List.take_succ_eq_append_getElem hlt, List.any_append, HS.out]; simpa using hd)
      have HY : Hid (decide ((400 : Int) < l[k].ls.length) = true → (l.any fun c => decide ((400 : Int) < c.ls.length)) = true) := Lib.hid (fun hd => List.any_eq_true.2 ⟨_, List.getElem_mem hlt, hd⟩)
      clear hcell hu hvb hw1 hadb
      generalize l[k] = ch at *
      obtain ⟨kind, ls⟩ := ch
      simp only [] at c0 c1 hl3 HT HY
      have HHB := Lib.hid (HB.out.alloc HB.out.size (.cells #[.int .i64 kind, .slice A3 ls.length c3] 109))
      go_wp2_with fail
      refine (madeFn_any kind A3 ls.length c3 wr (by omega)).mono ?_
      rintro e w1 ⟨rfl, rfl⟩
      by_cases hd : (400 : Int) < ls.length
      · have hy := HY.out (decide_eq_true hd)
        have HP : Hid (IdxPost l w (.returned (.int .i64 k)) (wr.alloc (.cells #[.int .i64 kind, .slice A3 ls.length c3] 109))) :=
          Lib.hid ⟨_, rfl, Lib.hid (by rw [hy]; simp), HHB.out⟩
        clear hy HY HT
        go_wp2_with fail
        go_ret
        exact HP.out
      · have HT1 := Lib.hid (HT.out (decide_eq_false hd))
        clear HY HT
        go_wp2_with fail
        go_roundw
        case rel => exact ⟨k + 1, by omega, by go_num, HT1, HHB⟩
        case measure => simp [intOf]; omega
    · obtain rfl : k = l.length := by omega
      rw [List.take_length] at HS
      have HP : Hid (IdxPost l w (.returned (.int .i64 (-1))) wr) := Lib.hid ⟨_, rfl, Lib.hid (by rw [HS.out]; rfl), HB.out⟩
      go_wp2_with fail
      go_ret
      exact HP.out
set_option maxRecDepth 100000 in
set_option maxHeartbeats 400000 in
theorem containsFn_any (v : Value) (l : List Ch) (w : World) (h : (Rp.sl chRp).ok w (· < w.heap.size) [v] l) :
    Calls Try.prog 96 #[v, .func (.func 97) #[] #[]] w fun e w' =>
      e = .returned (.bool (l.any fun c => decide ((400 : Int) < c.ls.length))) ∧ Below w.heap.size w w' := by
  go_enter Try.func96, Try.ntmps96
  go_wp2_with fail
  refine (indexFn_any v l w h).mono ?_
  rintro e w1 ⟨i, rfl, HI, hb⟩
  have HB := Lib.hid hb
  clear hb h
  go_wp2_with fail
  go_ret
  exact ⟨by rw [← HI.out]; rfl, HB.out⟩

theorem lnEnd_cut {t : List UInt8} (h : t ≠ []) : t.drop (t.length - 1) = [t.getLast h] := by
  conv => lhs; arg 2; rw [← List.dropLast_concat_getLast h]
  rw [List.drop_append_of_le_length (by rw [List.length_dropLast]; omega), List.drop_of_length_le (by rw [List.length_dropLast]; omega), List.nil_append]
theorem lnEnd_is {t : List UInt8} (h : t ≠ []) : ((bstr (t.drop (t.length - 1))).toList == [10]) = lnEnd t := by
  rw [bstr_toList, lnEnd_cut h, lnEnd, List.getLast?_eq_some_getLast h]
  by_cases e : t.getLast h = 10 <;> simp [e]
set_option maxRecDepth 100000 in
set_option maxHeartbeats 400000 in
theorem hasEnd_any (t : List UInt8) (w : World) (ht : t.length ≤ 140737488355328) :
    Calls Try.prog 99 #[.string (bstr t), .string ⟨#[10]⟩] w fun e w' => e = .returned (.bool (lnEnd t)) ∧ w = w' := by
  have hsz : (bstr t).size = t.length := rfl
  by_cases h0 : t = []
  · have HV : Hid (lnEnd t = false) := Lib.hid (by subst h0; rfl)
    have hl : t.length = 0 := by rw [h0]; rfl
    clear h0
    go_enter Try.func99, Try.ntmps99
    go_wp2
    go_ret
    exact ⟨by rw [HV.out]; rfl, rfl⟩
  · have hpos := List.length_pos_iff.2 h0
    have HV := Lib.hid (lnEnd_is h0)
    have E1 := Lib.hid (extract_tail t (t.length - 1))
    clear h0
    go_enter Try.func99, Try.ntmps99
    go_wp2
    go_ret
    refine ⟨?_, rfl⟩
    rw [← HV.out, ← E1.out]
    rfl
end Go.Proofs.Ytofahmdjhpbecaa
