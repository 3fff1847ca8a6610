/-
  'edges' of package rights: the moments at which something can change.
-/
import Derived.Test.YtfgglpjmkahphaaGreatDoorSpanP
import Derived.Test.YtfgglpjmkahphaaGreatDoorUnder
import Derived.Test.YtfgglpjmkahphaaGreatDoorSortI
import Derived.Test.YtfgglpjmkahphaaGreatDoorConc
namespace Go.Proofs.YtfgglpjmkahphaaGreatDoor
open Go.RowKit
set_option linter.unusedVariables false
set_option linter.unusedSimpArgs false

def evs (at_ : Int) (ns : List Int) : List Int := ns.filter fun n => decide (at_ < n) && decide (n ≤ 253402300799)
def edgeL (l : List Rgt) (c : Cap) (at_ : Int) : Nat → List Int
  | 0 => [at_]
  | k + 1 => if aboutB (l.getD k default) c = true then edgeL l c at_ k ++ evs at_ [fromI (l.getD k default), (l.getD k default).en] else edgeL l c at_ k
theorem evs_len (at_ : Int) (ns : List Int) : (evs at_ ns).length ≤ ns.length := List.length_filter_le _ _
theorem edgeL_len (l : List Rgt) (c : Cap) (at_ : Int) : ∀ k, (edgeL l c at_ k).length ≤ 2 * k + 1 ∧ 0 < (edgeL l c at_ k).length
  | 0 => by simp [edgeL]
  | k + 1 => by
    have ih := edgeL_len l c at_ k
    rw [edgeL]
    split
    · have := evs_len at_ [fromI (l.getD k default), (l.getD k default).en]
      simp only [List.length_cons, List.length_nil] at this
      rw [List.length_append]; omega
    · omega
theorem edgeL_mem (l : List Rgt) (c : Cap) (at_ n : Int) : ∀ k, k ≤ l.length → (n ∈ edgeL l c at_ k ↔ n = at_ ∨ (∃ j, ∃ h : j < l.length, j < k ∧ aboutB l[j] c = true ∧ (n = fromI l[j] ∨ n = l[j].en)) ∧ at_ < n ∧ n ≤ 253402300799)
  | 0, _ => by
    rw [edgeL, List.mem_singleton]
    exact ⟨.inl, fun h => h.elim id (fun ⟨⟨j, _, hj, _⟩, _⟩ => by omega)⟩
  | k + 1, hk => by
    have ih := edgeL_mem l c at_ n k (by omega)
    have hg := getD_at l default (show k < l.length by omega)
    rw [edgeL, hg]
    constructor
    · intro h
      split at h
      · rename_i ha
        rcases List.mem_append.1 h with h | h
        · rcases ih.1 h with h | ⟨⟨j, h1, h2, h3⟩, h4⟩
          · exact .inl h
          · exact .inr ⟨⟨j, h1, by omega, h3⟩, h4⟩
        · have h := List.mem_filter.1 h
          obtain ⟨h1, h2⟩ := h
          simp at h1 h2
          exact .inr ⟨⟨k, by omega, by omega, ha, h1⟩, h2⟩
      · rcases ih.1 h with h | ⟨⟨j, h1, h2, h3⟩, h4⟩
        · exact .inl h
        · exact .inr ⟨⟨j, h1, by omega, h3⟩, h4⟩
    · intro h
      have hin : n ∈ edgeL l c at_ k ∨ (aboutB l[k] c = true ∧ n ∈ evs at_ [fromI l[k], l[k].en]) := by
        rcases h with h | ⟨⟨j, h1, h2, h3, h5⟩, h4⟩
        · exact .inl (ih.2 (.inl h))
        · by_cases e : j = k
          · subst e
            refine .inr ⟨h3, List.mem_filter.2 ⟨by simpa using h5, by simpa using h4⟩⟩
          · exact .inl (ih.2 (.inr ⟨⟨j, h1, by omega, h3, h5⟩, h4⟩))
      split
      · rcases hin with h | h
        · exact List.mem_append_left _ h
        · exact List.mem_append_right _ h.2
      · rename_i ha
        rcases hin with h | h
        · exact h
        · exact absurd h.1 ha
theorem edge_mem (l : List Rgt) (c : Cap) (at_ n : Int) : n ∈ Lib.compact (srtI (edgeL l c at_ l.length)) ↔ n = at_ ∨ Brk l c n ∧ at_ < n ∧ n ≤ 253402300799 := by
  rw [(comp_sorted (srtI_sorted _)).1, srtI_mem, edgeL_mem l c at_ n l.length (Nat.le_refl _)]
  constructor
  · rintro (h | ⟨⟨j, h1, _, h3, h4⟩, h5⟩)
    · exact .inl h
    · exact .inr ⟨⟨l[j], List.getElem_mem h1, h3, h4⟩, h5⟩
  · rintro (h | ⟨⟨r, hr, h3, h4⟩, h5⟩)
    · exact .inl h
    · obtain ⟨j, hj, rfl⟩ := List.mem_iff_getElem.1 hr
      exact .inr ⟨⟨j, hj, hj, h3, h4⟩, h5⟩
def EdgePost (l : List Rgt) (c : Cap) (at_ : Int) (w : World) (e : Ending) (w' : World) : Prop :=
  ∃ (v : Value) (es : List Int), e = .returned v ∧ w'.ownsRow w.heap.size 3 1 v es.length (es.map (.int .i64)) ∧ es.Pairwise (· < ·) ∧ (∀ n, n ∈ es ↔ n = at_ ∨ Brk l c n ∧ at_ < n ∧ n ≤ 253402300799) ∧ es.length ≤ 100000 ∧ Below w.heap.size w w'
theorem comp_len (zs : List Int) : (Lib.compact zs).length ≤ zs.length := compI_le zs
theorem evs_yes {at_ n : Int} {ns : List Int} (h : at_ < n ∧ n ≤ 253402300799) : evs at_ (ns ++ [n]) = evs at_ ns ++ [n] := by
  unfold evs
  rw [List.filter_append, List.filter_cons, if_pos (by rw [decide_eq_true h.1, decide_eq_true h.2]; rfl)]; rfl
theorem evs_no {at_ n : Int} {ns : List Int} (h : ¬ (at_ < n ∧ n ≤ 253402300799)) : evs at_ (ns ++ [n]) = evs at_ ns := by
  unfold evs
  rw [List.filter_append, List.filter_cons, if_neg (by rw [Bool.and_eq_true, decide_eq_true_eq, decide_eq_true_eq]; exact h)]
  simp
theorem row_not_cap {w : World} {g : Nat} {t : TypeId} {cs : List Value} (h : Blk w g t cs) {B : Nat} {e : TypeId} {size k : Nat} {v : Value} {xs : List Value} (hr : w.ownsRow B e size v k xs) (hte : t ≠ e := by decide) : some g ≠ v.ownBlock := by
  rcases hr.2 with ⟨rfl, _⟩ | ⟨g', cap, cur, rfl, _, hgb, _⟩
  · simp [Value.ownBlock]
  · intro e'
    obtain rfl : g = g' := by simpa [Value.ownBlock] using e'
    have := (show w.heap[g]? = _ from h).symm.trans hgb
    simp only [Option.some.injEq, Obj.cells.injEq] at this
    exact hte this.2.1
set_option maxRecDepth 100000 in
set_option maxHeartbeats 4000000 in
theorem edges_any (v : Value) (l : List Rgt) (c : Cap) (at_ : Int) (w : World) (h0 : (Rp.sl rgtRp).ok w (· < w.heap.size) [v] l) (hm : l.length ≤ 1000) (hck : c.key.length ≤ 9223372036854775807) :
    Calls Tryz.prog 19 #[v, .agg #[.string (bstr c.key), .int .i64 c.time], .int .i64 at_] w (EdgePost l c at_ w) := by
  obtain ⟨A, cc, rfl, hl, hc, _⟩ := Rp.sl_open h0
  unfold maxLen at hc
  have H0 := Lib.hid h0
  clear h0
  have hl0 := (Below.refl w.heap.size _).alloc (Nat.le_refl _) (.cells #[.string (bstr c.key), .int .i64 c.time] 27)
  have HBA : Hid (Below w.heap.size w (w.alloc (.cells #[.string (bstr c.key), .int .i64 c.time] 27))) := Lib.hid (hl0)
  have hk0 : Blk (w.alloc (.cells #[.string (bstr c.key), .int .i64 c.time] 27)) (w.heap.size) 27 [.string (bstr c.key), .int .i64 c.time] := by
    have h := Blk.new w 27 [.string (bstr c.key), .int .i64 c.time]
    simpa only [World.size_alloc] using h
  have HKCA := Lib.hid hk0
  clear hl0 hk0
  have HB0 : Hid (Below w.heap.size w ((w.alloc (.cells #[.string (bstr c.key), .int .i64 c.time] 27)).alloc (.cells #[.int .i64 at_] 3))) := Lib.hid (HBA.out.trans (((Below.refl (w.alloc (.cells #[.string (bstr c.key), .int .i64 c.time] 27)).heap.size _).alloc (Nat.le_refl _) _).mono HBA.out.size))
  have HKC0 := Lib.hid (HKCA.out.same (same_below ((Below.refl (w.alloc (.cells #[.string (bstr c.key), .int .i64 c.time] 27)).heap.size _).alloc (Nat.le_refl _) (.cells #[.int .i64 at_] 3))) HKCA.out.lt)
  have HO0 : Hid (((w.alloc (.cells #[.string (bstr c.key), .int .i64 c.time] 27)).alloc (.cells #[.int .i64 at_] 3)).ownsRow (w.alloc (.cells #[.string (bstr c.key), .int .i64 c.time] 27)).heap.size 3 1 (.slice (some ⟨(w.alloc (.cells #[.string (bstr c.key), .int .i64 c.time] 27)).heap.size, 0, none⟩) 1 1) 1 [.int .i64 at_]) := Lib.hid (World.ownsRow_lit (size := 1) (w.alloc (.cells #[.string (bstr c.key), .int .i64 c.time] 27)) #[.int .i64 at_] 1 (Nat.le_refl _) (by unfold maxLen; omega) rfl)
  have hszA : w.heap.size ≤ (w.alloc (.cells #[.string (bstr c.key), .int .i64 c.time] 27)).heap.size := HBA.out.size
  clear HBA HKCA
  go_enter Tryz.func19, Tryz.ntmps19
  go_wp2_with fail
  generalize (w.alloc (.cells #[.string (bstr c.key), .int .i64 c.time] 27)).alloc (.cells #[.int .i64 at_] 3) = w0 at *
  have HOB : Hid (w0.ownsRow w.heap.size 3 1 (.slice (some ⟨w.heap.size + 1, 0, none⟩) 1 1) 1 [.int .i64 at_]) := Lib.hid (by
    have h := HO0.out
    rw [World.size_alloc] at h
    refine ⟨h.1, h.2.imp id ?_⟩
    rintro ⟨g, cap, cur, e, hb, r⟩
    exact ⟨g, cap, cur, e, by omega, r⟩)
  clear HO0 hszA
  go_loopw [7, 16] (fun vo vi wr => ∃ k : Nat, k ≤ l.length ∧ vi = .int .i64 k ∧ Hid (wr.ownsRow w.heap.size 3 1 vo (edgeL l c at_ k).length ((edgeL l c at_ k).map (.int .i64))) ∧ Hid (Blk wr w.heap.size 27 [.string (bstr c.key), .int .i64 c.time]) ∧ Hid (Below w.heap.size w wr)) (fun _ vi _ => l.length - (intOf vi).toNat)
  case atStart => exact ⟨0, by omega, rfl, HOB, HKC0, HB0⟩
  case round =>
    clear HOB HKC0 HB0
    obtain ⟨k, hk, rfl, HO, HKC, HB⟩ := hrel
    obtain ⟨Ao, co, hvo, hco1, hco2, _⟩ := own_form HO.out
    subst hvo
    have hel := edgeL_len l c at_ k
    by_cases hlt : k < l.length
    · obtain ⟨ad, c', e1, hadb, c0, c1, c2, c3, c4, c5, c6, c7, c8, hz⟩ := rgt_at (Rp.below _ H0.out HB.out) hlt
      cases e1
      have HS : Hid (edgeL l c at_ (k + 1) = if aboutB l[k] c = true then edgeL l c at_ k ++ evs at_ [fromI l[k], l[k].en] else edgeL l c at_ k) := Lib.hid (by rw [edgeL, getD_at _ _ hlt])
      generalize l[k] = x at *
      have hal := (Below.refl wr.heap.size wr).alloc (Nat.le_refl _) (.cells #[.string (bstr x.id), .string (bstr x.pre), .int .i64 x.frm, .int .i64 x.to, .int .i64 x.st, .int .i64 x.en, .int .i64 x.made, .int .i64 x.kind, .string (bstr x.team)] 78)
      have HB4 := Lib.hid (HB.out.trans (hal.mono HB.out.size))
      have HKX4 := Lib.hid (Blk.new wr 78 [.string (bstr x.id), .string (bstr x.pre), .int .i64 x.frm, .int .i64 x.to, .int .i64 x.st, .int .i64 x.en, .int .i64 x.made, .int .i64 x.kind, .string (bstr x.team)])
      have HKC4 := Lib.hid (HKC.out.same (same_below hal) HKC.out.lt)
      have HO4 := Lib.hid (own_below HO.out hal)
      clear hal
      have x0 : (wr.alloc (.cells #[.string (bstr x.id), .string (bstr x.pre), .int .i64 x.frm, .int .i64 x.to, .int .i64 x.st, .int .i64 x.en, .int .i64 x.made, .int .i64 x.kind, .string (bstr x.team)] 78)).cell? ⟨wr.heap.size, 0, none⟩ = some (.string (bstr x.id)) := HKX4.out.cell 0
      have x1 : (wr.alloc (.cells #[.string (bstr x.id), .string (bstr x.pre), .int .i64 x.frm, .int .i64 x.to, .int .i64 x.st, .int .i64 x.en, .int .i64 x.made, .int .i64 x.kind, .string (bstr x.team)] 78)).cell? ⟨wr.heap.size, 1, none⟩ = some (.string (bstr x.pre)) := HKX4.out.cell 1
      have x2 : (wr.alloc (.cells #[.string (bstr x.id), .string (bstr x.pre), .int .i64 x.frm, .int .i64 x.to, .int .i64 x.st, .int .i64 x.en, .int .i64 x.made, .int .i64 x.kind, .string (bstr x.team)] 78)).cell? ⟨wr.heap.size, 2, none⟩ = some (.int .i64 x.frm) := HKX4.out.cell 2
      have x3 : (wr.alloc (.cells #[.string (bstr x.id), .string (bstr x.pre), .int .i64 x.frm, .int .i64 x.to, .int .i64 x.st, .int .i64 x.en, .int .i64 x.made, .int .i64 x.kind, .string (bstr x.team)] 78)).cell? ⟨wr.heap.size, 3, none⟩ = some (.int .i64 x.to) := HKX4.out.cell 3
      have x4 : (wr.alloc (.cells #[.string (bstr x.id), .string (bstr x.pre), .int .i64 x.frm, .int .i64 x.to, .int .i64 x.st, .int .i64 x.en, .int .i64 x.made, .int .i64 x.kind, .string (bstr x.team)] 78)).cell? ⟨wr.heap.size, 4, none⟩ = some (.int .i64 x.st) := HKX4.out.cell 4
      have x5 : (wr.alloc (.cells #[.string (bstr x.id), .string (bstr x.pre), .int .i64 x.frm, .int .i64 x.to, .int .i64 x.st, .int .i64 x.en, .int .i64 x.made, .int .i64 x.kind, .string (bstr x.team)] 78)).cell? ⟨wr.heap.size, 5, none⟩ = some (.int .i64 x.en) := HKX4.out.cell 5
      have x6 : (wr.alloc (.cells #[.string (bstr x.id), .string (bstr x.pre), .int .i64 x.frm, .int .i64 x.to, .int .i64 x.st, .int .i64 x.en, .int .i64 x.made, .int .i64 x.kind, .string (bstr x.team)] 78)).cell? ⟨wr.heap.size, 6, none⟩ = some (.int .i64 x.made) := HKX4.out.cell 6
      have x7 : (wr.alloc (.cells #[.string (bstr x.id), .string (bstr x.pre), .int .i64 x.frm, .int .i64 x.to, .int .i64 x.st, .int .i64 x.en, .int .i64 x.made, .int .i64 x.kind, .string (bstr x.team)] 78)).cell? ⟨wr.heap.size, 7, none⟩ = some (.int .i64 x.kind) := HKX4.out.cell 7
      have x8 : (wr.alloc (.cells #[.string (bstr x.id), .string (bstr x.pre), .int .i64 x.frm, .int .i64 x.to, .int .i64 x.st, .int .i64 x.en, .int .i64 x.made, .int .i64 x.kind, .string (bstr x.team)] 78)).cell? ⟨wr.heap.size, 8, none⟩ = some (.string (bstr x.team)) := HKX4.out.cell 8
      have k0 : (wr.alloc (.cells #[.string (bstr x.id), .string (bstr x.pre), .int .i64 x.frm, .int .i64 x.to, .int .i64 x.st, .int .i64 x.en, .int .i64 x.made, .int .i64 x.kind, .string (bstr x.team)] 78)).cell? ⟨w.heap.size, 0, none⟩ = some (.string (bstr c.key)) := HKC4.out.cell 0
      have k1 : (wr.alloc (.cells #[.string (bstr x.id), .string (bstr x.pre), .int .i64 x.frm, .int .i64 x.to, .int .i64 x.st, .int .i64 x.en, .int .i64 x.made, .int .i64 x.kind, .string (bstr x.team)] 78)).cell? ⟨w.heap.size, 1, none⟩ = some (.int .i64 c.time) := HKC4.out.cell 1
      go_wp2_with fail
      clear c0 c1 c2 c3 c4 c5 c6 c7 c8 x0 x1 x2 x3 x4 x5 x6 x7 x8 k0 k1
      obtain ⟨xb, hxb⟩ : ∃ xb, xb = wr.heap.size := ⟨_, rfl⟩
      have HXB := Lib.hid hxb
      rw [← hxb] at HKX4 ⊢
      clear hxb
      generalize wr.alloc (.cells #[.string (bstr x.id), .string (bstr x.pre), .int .i64 x.frm, .int .i64 x.to, .int .i64 x.st, .int .i64 x.en, .int .i64 x.made, .int .i64 x.kind, .string (bstr x.team)] 78) = wr4 at *
      refine (about_any x c wr4 hck).mono ?_
      rintro e wr5 ⟨rfl, hb⟩
      have HB5 := Lib.hid (HB4.out.trans (hb.mono HB4.out.size))
      have HKX5 := Lib.hid (HKX4.out.same (same_below hb) HKX4.out.lt)
      have HKC5 := Lib.hid (HKC4.out.same (same_below hb) HKC4.out.lt)
      have HO5 := Lib.hid (own_below HO4.out hb)
      clear hb HB4 HKX4 HKC4 HO4 HO HKC HB
      cases hq : aboutB x c with
      | false =>
        have HE := Lib.hid (HS.out.trans (if_neg (by rw [hq]; decide)))
        clear hq HS
        go_wp2_with fail
        go_roundw
        case rel => first | exact ⟨k + 1, by omega, by go_num, by rw [HE.out]; exact HO5, HKC5, HB5⟩ | (repeat (apply Exists.intro); (refine And.intro ?_ ?_; rotate_left; (repeat' (first | exact rfl | apply And.intro)); exact ⟨k + 1, by omega, by go_num, by rw [HE.out]; exact HO5, HKC5, HB5⟩))
        case measure => simp [intOf]; omega
      | true =>
        have HE := Lib.hid (HS.out.trans (if_pos hq))
        clear hq HS
        have KEEP : Hid (∀ w', Below wr5.heap.size wr5 w' → (w'.cell? ⟨xb, 0, none⟩ = some (.string (bstr x.id)) ∧ w'.cell? ⟨xb, 1, none⟩ = some (.string (bstr x.pre)) ∧ w'.cell? ⟨xb, 2, none⟩ = some (.int .i64 x.frm) ∧ w'.cell? ⟨xb, 3, none⟩ = some (.int .i64 x.to) ∧ w'.cell? ⟨xb, 4, none⟩ = some (.int .i64 x.st) ∧ w'.cell? ⟨xb, 5, none⟩ = some (.int .i64 x.en) ∧ w'.cell? ⟨xb, 6, none⟩ = some (.int .i64 x.made) ∧ w'.cell? ⟨xb, 7, none⟩ = some (.int .i64 x.kind) ∧ w'.cell? ⟨xb, 8, none⟩ = some (.string (bstr x.team)))) := Lib.hid (fun w' hg => by
          have h1 := HKX5.out.same (same_below hg) HKX5.out.lt
          exact ⟨h1.cell 0, h1.cell 1, h1.cell 2, h1.cell 3, h1.cell 4, h1.cell 5, h1.cell 6, h1.cell 7, h1.cell 8⟩)
        go_wp2_with fail
        refine wp_region_held_drew (S := fun w' => w'.cell? ⟨xb, 0, none⟩ = some (.string (bstr x.id)) ∧ w'.cell? ⟨xb, 1, none⟩ = some (.string (bstr x.pre)) ∧ w'.cell? ⟨xb, 2, none⟩ = some (.int .i64 x.frm) ∧ w'.cell? ⟨xb, 3, none⟩ = some (.int .i64 x.to) ∧ w'.cell? ⟨xb, 4, none⟩ = some (.int .i64 x.st) ∧ w'.cell? ⟨xb, 5, none⟩ = some (.int .i64 x.en) ∧ w'.cell? ⟨xb, 6, none⟩ = some (.int .i64 x.made) ∧ w'.cell? ⟨xb, 7, none⟩ = some (.int .i64 x.kind) ∧ w'.cell? ⟨xb, 8, none⟩ = some (.string (bstr x.team))) (by kernel_rfl) (KEEP.out _ (Below.drew (Below.refl _ _))) (fun hHeld => ?_)
        obtain ⟨wq, hwq⟩ : ∃ wq, wq = World.drew wr5 := ⟨_, rfl⟩
        have HG0 : Hid (Below wr5.heap.size wr5 wq) := Lib.hid (by rw [hwq]; exact Below.drew (Below.refl _ _))
        rw [← hwq] at hHeld ⊢
        clear hwq
        refine wpAnyH_take (i := 0) (v := ?_) rfl (by kernel_rfl) (by kernel_rfl) (by kernel_rfl) (fun _ _ _ h => h) (Or.inl ⟨by rfl, ?_⟩) (by assumption) ?_
        rotate_left
        · (intro w hSw; (try dsimp only at hSw); go_simp; try with_reducible rfl)
        try simp only [List.getElem_toArray, List.getElem_cons_succ, List.getElem_cons_zero, Act.put, List.setIfInBounds_toArray, List.set_cons_zero, List.set_cons_succ]
        refine wpAnyH_take (i := 2) (v := ?_) rfl (by kernel_rfl) (by kernel_rfl) (by kernel_rfl) (fun _ _ _ h => h) (Or.inl ⟨by rfl, ?_⟩) (by assumption) ?_
        rotate_left
        · (intro w hSw; (try dsimp only at hSw); go_simp; try with_reducible rfl)
        try simp only [List.getElem_toArray, List.getElem_cons_succ, List.getElem_cons_zero, Act.put, List.setIfInBounds_toArray, List.set_cons_zero, List.set_cons_succ]
        refine wpAnyH_take (i := 3) (v := ?_) rfl (by kernel_rfl) (by kernel_rfl) (by kernel_rfl) (fun _ _ _ h => h) (Or.inl ⟨by rfl, ?_⟩) (by assumption) ?_
        rotate_left
        · (intro w hSw; (try dsimp only at hSw); go_simp; try with_reducible rfl)
        try simp only [List.getElem_toArray, List.getElem_cons_succ, List.getElem_cons_zero, Act.put, List.setIfInBounds_toArray, List.set_cons_zero, List.set_cons_succ]
        refine wpAnyH_take (i := 6) (v := ?_) rfl (by kernel_rfl) (by kernel_rfl) (by kernel_rfl) (fun _ _ _ h => h) (Or.inl ⟨by rfl, ?_⟩) (by assumption) ?_
        rotate_left
        · (intro w hSw; (try dsimp only at hSw); go_simp; try with_reducible rfl)
        try simp only [List.getElem_toArray, List.getElem_cons_succ, List.getElem_cons_zero, Act.put, List.setIfInBounds_toArray, List.set_cons_zero, List.set_cons_succ]
        refine wpAnyH_ready (rs := [1]) (by kernel_rfl) (by simp) ?_
        refine AllReadyH.cons rfl (fun K hK => ?_) AllReadyH.nil
        rw [if_pos (by rfl)]
        simp only [List.getElem_toArray, List.getElem_cons_succ, List.getElem_cons_zero]
        go_simp
        go_at_call 41
        refine (from_any x _).mono ?_
        rintro e w6 ⟨rfl, hw⟩
        have HG6 : Hid (Below wr5.heap.size wr5 w6) := Lib.hid (HG0.out.trans (hw.mono HG0.out.size))
        clear hw
        show K _ w6
        refine hK.out _ _ (KEEP.out _ HG6.out) (fun hHeld => ?_)
        clear hK K
        try simp only [List.getElem_toArray, List.getElem_cons_succ, List.getElem_cons_zero, Act.put, List.setIfInBounds_toArray, List.set_cons_zero, List.set_cons_succ]
        have hal := (Below.refl w6.heap.size w6).alloc (Nat.le_refl _) (.cells #[.int .i64 (fromI x), .int .i64 x.en] 3)
        have HG7 : Hid (Below wr5.heap.size wr5 (w6.alloc (.cells #[.int .i64 (fromI x), .int .i64 x.en] 3))) := Lib.hid (HG6.out.trans (hal.mono HG6.out.size))
        have HKN := Lib.hid (Blk.new w6 3 [.int .i64 (fromI x), .int .i64 x.en])
        clear hal
        refine wpAnyH_ready (rs := [4]) (by kernel_rfl) (by simp) ?_
        refine AllReadyH.cons rfl (fun K hK => ?_) AllReadyH.nil
        rw [if_pos (by rfl)]
        simp only [List.getElem_toArray, List.getElem_cons_succ, List.getElem_cons_zero]
        go_simp
        refine hK.out _ _ (KEEP.out _ HG7.out) (fun hHeld => ?_)
        clear hK K
        try simp only [List.getElem_toArray, List.getElem_cons_succ, List.getElem_cons_zero, Act.put, List.setIfInBounds_toArray, List.set_cons_zero, List.set_cons_succ]
        refine wpAnyH_take (i := 5) (v := ?_) rfl (by kernel_rfl) (by kernel_rfl) (by kernel_rfl) (fun _ _ _ h => h) (Or.inl ⟨by rfl, ?_⟩) (by assumption) ?_
        rotate_left
        · (intro w hSw; (try dsimp only at hSw); go_simp; try with_reducible rfl)
        try simp only [List.getElem_toArray, List.getElem_cons_succ, List.getElem_cons_zero, Act.put, List.setIfInBounds_toArray, List.set_cons_zero, List.set_cons_succ]
        refine wpAnyH_done (by kernel_rfl) ?_ _
        clear hHeld KEEP
        obtain ⟨nb, hnb⟩ : ∃ nb, nb = w6.heap.size := ⟨_, rfl⟩
        rw [← hnb] at HKN ⊢
        have hnb5 : wr5.heap.size ≤ nb := by rw [hnb]; exact HG6.out.size
        clear hnb
        generalize w6.alloc (.cells #[.int .i64 (fromI x), .int .i64 x.en] 3) = w7 at *
        have HB7 := Lib.hid (HB5.out.trans (HG7.out.mono HB5.out.size))
        have HKC7 := Lib.hid (HKC5.out.same (same_below HG7.out) HKC5.out.lt)
        have HO7 := Lib.hid (own_below HO5.out HG7.out)
        have hHOB5 : ∀ g, (Value.slice Ao (edgeL l c at_ k).length co).ownBlock = some g → g < nb := fun g hg => Nat.lt_of_lt_of_le (HO5.out.lt g hg).2 hnb5
        have HNO : Hid (∀ g, (Value.slice Ao (edgeL l c at_ k).length co).ownBlock = some g → g < nb) := Lib.hid hHOB5
        clear hHOB5 HG6 HG7 HG0 HB5 HKC5 HO5 HKX5
        obtain ⟨ns, hns⟩ : ∃ ns, ns = [fromI x, x.en] := ⟨_, rfl⟩
        have hnl : ns.length = 2 := by rw [hns]; rfl
        have HKN7 : Hid (Blk w7 nb 3 (ns.map (.int .i64))) := Lib.hid (by rw [hns]; exact HKN.out)
        rw [← hns] at HE
        clear hns HKN
        have hcw := HKC7.out.lt
        have hnw := HKN7.out.lt
        go_wp2_with fail
        go_loopw [7, 30] (fun vo vi wx => ∃ (m : Nat), m ≤ 2 ∧ vi = .int .i64 m ∧ Hid (wx.ownsRow w.heap.size 3 1 vo (edgeL l c at_ k ++ evs at_ (ns.take m)).length ((edgeL l c at_ k ++ evs at_ (ns.take m)).map (.int .i64))) ∧ Hid (Blk wx nb 3 (ns.map (.int .i64))) ∧ Hid (Blk wx w.heap.size 27 [.string (bstr c.key), .int .i64 c.time]) ∧ Hid (Below w.heap.size w wx) ∧ Hid (∀ g, vo.ownBlock = some g → g ≠ nb)) (fun _ vi _ => 2 - (intOf vi).toNat)
        case atStart => exact ⟨0, by omega, rfl, Lib.hid (by simpa [evs] using HO7.out), HKN7, HKC7, HB7, Lib.hid (fun g hg => Nat.ne_of_lt (HNO.out g hg))⟩
        case round =>
          clear HO7 HKN7 HKC7 HB7 HNO hco1 hco2
          obtain ⟨m, hm, rfl, HO, HKN, HKC, HB, HNE⟩ := hrel
          obtain ⟨Ao, co, hvo, hco1, hco2, _⟩ := own_form HO.out
          subst hvo
          have hev := evs_len at_ (ns.take m)
          have htk : (ns.take m).length ≤ 2 := by rw [List.length_take]; omega
          have hal2 : (edgeL l c at_ k ++ evs at_ (ns.take m)).length ≤ 2 * k + 3 := by rw [List.length_append]; omega
          by_cases hml : m < 2
          · have hmn : m < ns.length := by omega
            have n0 : wr.cell? ⟨nb, m, none⟩ = some (.int .i64 ns[m]) := by rw [HKN.out.cell m]; simp [hmn]
            have HY : Hid (at_ < ns[m] ∧ ns[m] ≤ 253402300799 → evs at_ (ns.take (m + 1)) = evs at_ (ns.take m) ++ [ns[m]]) := Lib.hid (fun h => by rw [List.take_succ_eq_append_getElem hmn]; exact evs_yes h)
            have HN : Hid (¬ (at_ < ns[m] ∧ ns[m] ≤ 253402300799) → evs at_ (ns.take (m + 1)) = evs at_ (ns.take m)) := Lib.hid (fun h => by rw [List.take_succ_eq_append_getElem hmn]; exact evs_no h)
            generalize ns[m] = n at *
            have hmI : (m : Int) < 2 := by omega
            by_cases hq : at_ < n ∧ n ≤ 253402300799
            · have HE2 := Lib.hid (HY.out hq)
              obtain ⟨hq1, hq2⟩ := hq
              have hHL := Lib.hid (fun g hg => (HO.out.lt g hg).1)
              clear HY HN
              generalize hXS : edgeL l c at_ k ++ evs at_ (ns.take m) = XS at *
              have HXS := Lib.hid hXS
              clear hXS
              go_wp2_with (at_builtin; go_must (refine app_new (w := wr) rfl (.tmp 41) (.tmp 43) 54 rfl 3 (.int .i64 0) 1 8 Tryz.underlying54 int_info rfl (by decide) (m := 1) [.int .i64 n] HO.out HB.out.size rfl rfl rfl (by decide) (by simp [Value.oneCell']) (by unfold maxLen; omega) (by omega) ?_); intro g8 c8 w8 HO8 HG8 HE8 HL8)
              have HNE8 : Hid (∀ g, (Value.slice (some ⟨g8, 0, none⟩) (XS.length + 1) c8).ownBlock = some g → g ≠ nb) := Lib.hid (fun g hg => by
                have e : g = g8 := by simp only [Value.ownBlock, Option.some.injEq] at hg; exact hg.symm
                rw [e]
                rcases HL8.out with h | h
                · exact HNE.out g8 h
                · have := HKN.out.lt; omega)
              have HKN8 := Lib.hid (HKN.out.same (grown_same HG8.out) ⟨HKN.out.lt, fun e => HNE.out nb e.symm rfl⟩)
              have HKC8 := Lib.hid (HKC.out.same (S := fun g => g < wr.heap.size ∧ some g ≠ (Value.slice Ao XS.length co).ownBlock) (grown_same HG8.out) ⟨HKC.out.lt, fun e => (row_not_cap HKC.out HO.out) e⟩)
              have HB8 := Lib.hid (HB.out.grown HG8.out HB.out.size (fun g hg => hHL.out g hg))
              go_roundw
              case rel => first | exact ⟨m + 1, by omega, by go_num, by rw [HE2.out, ← List.append_assoc, HXS.out, List.length_append, List.length_singleton, List.map_append]; exact HO8, HKN8, HKC8, HB8, HNE8⟩ | (repeat (apply Exists.intro); (refine And.intro ?_ ?_; rotate_left; (repeat' (first | exact rfl | apply And.intro)); exact ⟨m + 1, by omega, by go_num, by rw [HE2.out, ← List.append_assoc, HXS.out, List.length_append, List.length_singleton, List.map_append]; exact HO8, HKN8, HKC8, HB8, HNE8⟩))
              case measure => simp [intOf]; omega
            · have HE2 := Lib.hid (HN.out hq)
              clear HY HN
              by_cases hq1 : at_ < n
              · have hq2 : ¬ n ≤ 253402300799 := fun h => hq ⟨hq1, h⟩
                clear hq
                go_wp2_with fail
                go_roundw
                case rel => first | exact ⟨m + 1, by omega, by go_num, by rw [HE2.out]; exact HO, HKN, HKC, HB, HNE⟩ | (repeat (apply Exists.intro); (refine And.intro ?_ ?_; rotate_left; (repeat' (first | exact rfl | apply And.intro)); exact ⟨m + 1, by omega, by go_num, by rw [HE2.out]; exact HO, HKN, HKC, HB, HNE⟩))
                case measure => simp [intOf]; omega
              · clear hq
                go_wp2_with fail
                go_roundw
                case rel => first | exact ⟨m + 1, by omega, by go_num, by rw [HE2.out]; exact HO, HKN, HKC, HB, HNE⟩ | (repeat (apply Exists.intro); (refine And.intro ?_ ?_; rotate_left; (repeat' (first | exact rfl | apply And.intro)); exact ⟨m + 1, by omega, by go_num, by rw [HE2.out]; exact HO, HKN, HKC, HB, HNE⟩))
                case measure => simp [intOf]; omega
          · obtain rfl : m = 2 := by omega
            have HFT : Hid (ns.take 2 = ns) := Lib.hid (List.take_of_length_le (by omega))
            go_wp2_with fail
            go_roundw
            case rel => first | exact ⟨k + 1, by omega, by go_num, by rw [HE.out, HFT.out]; have h := HO.out; rw [HFT.out] at h; exact h, HKC, HB⟩ | (repeat (apply Exists.intro); (refine And.intro ?_ ?_; rotate_left; (repeat' (first | exact rfl | apply And.intro)); exact ⟨k + 1, by omega, by go_num, by rw [HE.out, HFT.out]; have h := HO.out; rw [HFT.out] at h; exact h, HKC, HB⟩))
            case measure => simp [intOf]; omega
    · obtain rfl : k = l.length := by omega
      have hel2 := hel
      generalize hes : edgeL l c at_ l.length = es at *
      have HES := Lib.hid hes
      clear hes
      go_wp2_with fail
      refine (sortI_any _ es w.heap.size wr HO.out hel.2 (by omega)).mono ?_
      rintro e w1 ⟨rfl, ho, hg⟩
      have HO1 := Lib.hid ho
      have HB1 := Lib.hid (HB.out.grown hg HB.out.size (fun g hg => (HO.out.lt g hg).1))
      clear ho hg
      have hsl := srtI_len es
      have HSL := Lib.hid hsl
      rw [hsl] at HO1
      clear hsl
      go_wp2_with fail
      refine (compI_any _ (srtI es) w.heap.size w1 (by rw [HSL.out]; exact HO1.out) (by rw [HSL.out]; exact hel.2) (by rw [HSL.out]; omega)).mono ?_
      rintro e w2 ⟨v2, rfl, ho, hg⟩
      have HO2 := Lib.hid ho
      have HB2 := Lib.hid (HB1.out.grown hg HB1.out.size (fun g hg => (HO1.out.lt g hg).1))
      clear ho hg
      have HCL := Lib.hid (comp_len (srtI es))
      go_wp2_with fail
      go_ret
      exact ⟨_, _, rfl, HO2.out, (comp_sorted (srtI_sorted es)).2, fun n => by rw [← HES.out]; exact edge_mem l c at_ n, by have h1 := HCL.out; have h2 := HSL.out; omega, HB2.out⟩
end Go.Proofs.YtfgglpjmkahphaaGreatDoor
