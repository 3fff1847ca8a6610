/-
  What the loop of After keeps.
-/
import Derived.Test.YtnkdcmibafjplaaGreatDoorHeldRow
namespace Go.Proofs.YtnkdcmibafjplaaGreatDoor
open Go.RowKit
set_option linter.unusedVariables false
set_option linter.unusedSimpArgs false

theorem bool_zeroA (w : World) : (zeroValue 4).run Tryz.prog w = .ok (.bool false) w := by kernel_rfl
structure AfSt (B mb : Nat) (w0 : World) (L : List Held) (n : Nat) (f : Lit → Option Value) (vo : Value) (w : World) : Prop where
  row : w.ownsRow B 54 3 vo L.length (L.flatMap heldCells)
  map : VMap Tryz.prog 54 (.bool false) w mb n f
  below : Below B w0 w
  le : B ≤ w.heap.size
  mbB : B ≤ mb
section
variable {B mb : Nat} {w0 w w' : World} {L : List Held} {n : Nat} {f : Lit → Option Value} {vo : Value}
theorem AfSt.next (h : AfSt B mb w0 L n f vo w) (hb : Below w.heap.size w w') : AfSt B mb w0 L n f vo w' where
  row := own_below h.row hb
  map := h.map.below hb h.map.lt
  below := h.below.trans (hb.mono h.le)
  le := Nat.le_trans h.le hb.size
  mbB := h.mbB
theorem AfSt.put (h : AfSt B mb w0 L n f vo w) {f' : Lit → Option Value} {m : Nat} (hm : VMap Tryz.prog 54 (.bool false) w' mb m f') (hg : w.grownBy w' (some mb)) : AfSt B mb w0 L m f' vo w' where
  row := h.row.kept hg (by
    cases hv : vo.ownBlock with
    | none => exact .inl rfl
    | some g => exact .inr (fun e => h.map.notRow h.row (by rw [hv, e])))
  map := hm
  below := h.below.grown hg h.le (fun k e => by injection e with e; subst e; exact h.mbB)
  le := Nat.le_trans h.le hg.size
  mbB := h.mbB
theorem AfSt.ins (h : AfSt B mb w0 L n f vo w) {L' : List Held} {vo' : Value} (hr : w'.ownsRow B 54 3 vo' L'.length (L'.flatMap heldCells)) (hg : w.grownBy w' vo.ownBlock) : AfSt B mb w0 L' n f vo' w' where
  row := hr
  map := h.map.grown hg (h.map.notRow h.row)
  below := h.below.grown hg h.le (fun k e => (h.row.lt k e).1)
  le := Nat.le_trans h.le hg.size
  mbB := h.mbB
theorem AfSt.dig {g m c i : Nat} (h : AfSt B mb w0 L n f (.slice (some ⟨g, 0, none⟩) m c) w) (hi : i < L.length) (hm : m = L.length) (d : List UInt8) :
    AfSt B mb w0 (L.set i ⟨L[i].item, L[i].site, d⟩) n f (.slice (some ⟨g, 0, none⟩) m c) (w.setCell ⟨g, i * 3 + 2, none⟩ (.string (bstr d))) where
  row := by
    subst hm
    rw [List.length_set, ← flat_dig L i hi d]
    exact own_set h.row (by omega) _
  map := h.map.grown (set_grownO w g _ _) (h.map.notRow h.row)
  below := h.below.grown (set_grownO w g _ _) h.le (fun k e => (h.row.lt k (by rw [← e]; rfl)).1)
  le := Nat.le_trans h.le (set_grownO w g (i * 3 + 2) (.string (bstr d))).size
  mbB := h.mbB
theorem AfSt.cell {g m c i : Nat} (h : AfSt B mb w0 L n f (.slice (some ⟨g, 0, none⟩) m c) w) (hi : i < L.length) : w.cell? ⟨g, i * 3 + 2, none⟩ = some (.string (bstr L[i].digest)) ∧ w.frozen? ⟨g, i * 3 + 2, none⟩ = false := by
  have hc := h.row.cells (g := g) rfl (i * 3 + 2) _ (show (L.flatMap heldCells)[i * 3 + 2]? = some (.string (bstr L[i].digest)) by rw [held_flat_at L i 2 hi (by decide)]; rfl)
  rw [show (⟨g, 0, none⟩ : Addr).add (i * 3 + 2) = ⟨g, i * 3 + 2, none⟩ by unfold Addr.add; split <;> simp_all] at hc
  refine ⟨hc, ?_⟩
  rcases h.row.2 with ⟨h1, _⟩ | ⟨g', cap, cur, h1, hb, hh, h2, h3, h4, h5⟩
  · cases h1
  · injection h1 with h1 _ h6
    injection h1 with h1
    injection h1 with h1
    subst h1
    simp [World.frozen?, hh]
end
theorem vmap_blk {P : Program} {K : TypeId} {z : Value} {w : World} {b g n : Nat} {f : Lit → Option Value} {t : TypeId} {cs : List Value} (h : VMap P K z w b n f) (hk : Blk w g t cs) : g ≠ b := by
  rintro rfl
  obtain ⟨D, ⟨es, clock, h1, h2⟩, h3⟩ := h
  unfold Blk at hk
  rw [hk] at h1
  cases h1
/-- The pairs that a repair has come for already. -/
def DoneOk (l : List Rpr) (f : Lit → Option Value) : Prop := ∀ (item to : List UInt8) (kl : Lit), keyOf Tryz.prog 54 (.agg #[.string (bstr item), .string (bstr to), .string ⟨#[]⟩]) = some kl →
  f kl = if (l.any fun y => decide (y.item = item ∧ y.to = to)) = true then some (.bool true) else none
theorem DoneOk.nil : DoneOk [] (fun _ => none) := fun _ _ _ _ => rfl
set_option maxRecDepth 100000 in
theorem DoneOk.put {l : List Rpr} {f : Lit → Option Value} (h : DoneOk l f) (x : Rpr) {kx : Lit} (hx : keyOf Tryz.prog 54 (.agg #[.string (bstr x.item), .string (bstr x.to), .string ⟨#[]⟩]) = some kx) :
    DoneOk (l ++ [x]) (fun y => if y.sameKey kx then some (.bool true) else f y) := by
  intro item to kl hk
  by_cases e : kl = kx
  · subst e
    have hv := held_law.inj hk hx
    injection hv with hv
    have h1 : item = x.item := by
      have := congrArg (fun a => a[0]?) hv
      simp at this
      exact bstr_inj this
    have h2 : to = x.to := by
      have := congrArg (fun a => a[1]?) hv
      simp at this
      exact bstr_inj this
    dsimp only
    rw [if_pos (WideAt.sameKey_self (held_law.key hk)), if_pos (by rw [List.any_append, h1, h2]; simp)]
  · have hne : ¬ (x.item = item ∧ x.to = to) := fun q => e (by rw [← q.1, ← q.2, hx] at hk; injection hk with hk; exact hk.symm)
    dsimp only
    rw [if_neg (by rw [Maps.sameKey_ne e]; simp), h item to kl hk, List.any_append]
    simp [hne]
set_option maxRecDepth 100000 in
theorem AftPost.fail {s : List Site} {l : List Held} {r : List Rpr} {w w' : World} {f : Int} (h : aftFault s l r = f) (hn : f ≠ 0) (hb : Below w.heap.size w w') : AftPost s l r w (.returned (.tuple #[.slice none 0 0, .int .i64 f])) w' := by
  have ho : aftOut s l r = [] := by rw [aftOut, if_neg (by rw [h]; exact hn)]
  refine ⟨_, by rw [h], ?_, hb⟩
  rw [ho]; exact Rp.sl_nil _ _ _
theorem AftPost.done {s : List Site} {l : List Held} {r : List Rpr} {w w' : World} {B n : Nat} {vo : Value} (h : aftFault s l r = 0) (hr : w'.ownsRow B 54 3 vo n ((aftL l r).flatMap heldCells)) (hz : ∀ x ∈ aftL l r, HSz x) (hb : Below w.heap.size w w') : AftPost s l r w (.returned (.tuple #[vo, .int .i64 0])) w' := by
  have ho : aftOut s l r = aftL l r := by rw [aftOut, if_pos h]
  refine ⟨_, by rw [h], ?_, hb⟩
  rw [ho]; exact held_read hr hz
theorem lbN_dig (a b c d : List UInt8) : ∀ L : List Held, lbN L ⟨a, b, c⟩ = lbN L ⟨a, b, d⟩
  | [] => rfl
  | y :: L => by
    rw [lbN, lbN, lbN_dig a b c d L]; rfl
theorem hit_dig (a b c d : List UInt8) (L : List Held) : hitL L ⟨a, b, c⟩ = hitL L ⟨a, b, d⟩ := by
  unfold hitL
  rw [lbN_dig a b c d L]; rfl
/-- The element that is found is written, or one is put in and written: both are 'putL'. -/
theorem put_hit {L : List Held} {a b d : List UInt8} (h : hitL L ⟨a, b, []⟩ = true) : ∃ hk : lbN L ⟨a, b, []⟩ < L.length, L.set (lbN L ⟨a, b, []⟩) ⟨(L[lbN L ⟨a, b, []⟩]'hk).item, (L[lbN L ⟨a, b, []⟩]'hk).site, d⟩ = putL L ⟨a, b, d⟩ := by
  unfold hitL at h
  rw [Bool.and_eq_true] at h
  have hk := of_decide_eq_true h.1
  have he := of_decide_eq_true h.2
  rw [getD_at _ _ hk] at he
  obtain ⟨e1, e2⟩ := (hc_eq _ _).1 he
  refine ⟨hk, ?_⟩
  have hl : lbN L ⟨a, b, d⟩ = lbN L ⟨a, b, []⟩ := lbN_dig a b d [] L
  have he2 : heldCmp (L[lbN L ⟨a, b, []⟩]'hk) ⟨a, b, d⟩ = 0 := he
  rw [putL_hit L ⟨a, b, d⟩ (by rw [hl]; exact hk) (by simp only [hl]; exact he2), e1, e2, hl]
theorem put_miss {L : List Held} {a b d : List UInt8} (h : hitL L ⟨a, b, []⟩ = false) :
    ∃ hk : lbN L ⟨a, b, []⟩ < (L.take (lbN L ⟨a, b, []⟩) ++ (⟨a, b, []⟩ : Held) :: L.drop (lbN L ⟨a, b, []⟩)).length,
      (L.take (lbN L ⟨a, b, []⟩) ++ (⟨a, b, []⟩ : Held) :: L.drop (lbN L ⟨a, b, []⟩)).set (lbN L ⟨a, b, []⟩) ⟨((L.take (lbN L ⟨a, b, []⟩) ++ (⟨a, b, []⟩ : Held) :: L.drop (lbN L ⟨a, b, []⟩))[lbN L ⟨a, b, []⟩]'hk).item, ((L.take (lbN L ⟨a, b, []⟩) ++ (⟨a, b, []⟩ : Held) :: L.drop (lbN L ⟨a, b, []⟩))[lbN L ⟨a, b, []⟩]'hk).site, d⟩ = putL L ⟨a, b, d⟩ := by
  have hl : lbN L ⟨a, b, d⟩ = lbN L ⟨a, b, []⟩ := lbN_dig a b d [] L
  have hle := lbN_le L ⟨a, b, []⟩
  have hm := putL_miss L ⟨a, b, d⟩ (fun hk he => by
    rw [hit_dig a b [] d] at h
    unfold hitL at h
    rw [decide_eq_true hk, getD_at _ _ hk, decide_eq_true he] at h
    cases h)
  rw [hl] at hm
  generalize lbN L ⟨a, b, []⟩ = k at *
  have hlen : (L.take k).length = k := by rw [List.length_take, Nat.min_eq_left hle]
  refine ⟨by rw [List.length_append, hlen, List.length_cons]; omega, ?_⟩
  have hg : ∀ hk, (L.take k ++ (⟨a, b, []⟩ : Held) :: L.drop k)[k]'hk = ⟨a, b, []⟩ := fun hk => by
    rw [List.getElem_append_right (by omega)]
    simp only [hlen, Nat.sub_self, List.getElem_cons_zero]
  rw [hg, hm, List.set_append_right _ _ (by omega), hlen, Nat.sub_self, List.set_cons_zero]
end Go.Proofs.YtnkdcmibafjplaaGreatDoor
