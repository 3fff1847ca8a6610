/-
  slices.Insert of one element at 'api.Held'.
-/
import Derived.Test.YtnkdcmibafjplaaGreatDoorProg
import Derived.Test.YtnkdcmibafjplaaGreatDoorInsP
import Derived.Deep.RegionLaw
namespace Go.Proofs.YtnkdcmibafjplaaGreatDoor
open Go.RowKit Go.Lib
set_option linter.unusedVariables false
set_option linter.unusedSimpArgs false

theorem held_info : (Tryz.prog.info? 54).map (fun i => (i.zero, i.size, i.bytes)) = some (some (.agg #[.string ⟨#[]⟩, .string ⟨#[]⟩, .string ⟨#[]⟩]), 3, 48) := by kernel_rfl
def InsPostHeld (B : Nat) (v : Value) (n i : Nat) (xs us : List Value) (w : World) (e : Ending) (w' : World) : Prop :=
  ∃ g c, e = .returned (.slice (some ⟨g, 0, none⟩) (n + 1) c) ∧ w'.ownsRow B 54 3 (.slice (some ⟨g, 0, none⟩) (n + 1) c) (n + 1) (xs.take (i * 3) ++ us ++ xs.drop (i * 3)) ∧ w.grownBy w' v.ownBlock ∧ (v.ownBlock = some g ∨ w.heap.size ≤ g)
set_option maxRecDepth 100000 in
set_option maxHeartbeats 4000000 in
theorem insHeld_end (v : Value) (n B vb : Nat) (xs us : List Value) (w : World) (hown : w.ownsRow B 54 3 v n xs) (hB : B ≤ w.heap.size) (hn : n < 100000) (hus : us.length = 3) (hu1 : ∀ u ∈ us, u.oneCell' = true) (hvb : Blk w vb 54 us) :
    Calls Tryz.prog 42 #[v, .int .i64 n, .slice (some ⟨vb, 0, none⟩) 1 1] w (InsPostHeld B v n n xs us w) := by
  obtain ⟨A, c, rfl, hnc, hcm, _⟩ := own_form hown
  unfold maxLen at hcm
  obtain ⟨ti, hi0, hz, hi1, hi2⟩ := info_parts held_info
  have hsrc := (fun j u (hj : us[j]? = some u) => show w.cell? ((⟨vb, 0, none⟩ : Addr).add j) = some u by rw [row_cell hvb 0 j, Nat.zero_add]; simpa using hj)
  obtain ⟨v', w', hrun, hown', hg, hnil, hat⟩ := run_append_own_at (P := Tryz.prog) w B 47 47 54 ti (.agg #[.string ⟨#[]⟩, .string ⟨#[]⟩, .string ⟨#[]⟩]) 3 48 Tryz.underlying47 hi0 hz hi1 hi2 rfl (by decide) (.slice A n c) n xs hown ⟨vb, 0, none⟩ 1 1 us (by omega) hsrc hu1 (by unfold maxLen; omega) (by omega) hB
  have HP : Hid (InsPostHeld B (.slice A n c) n n xs us w (.returned v') w') := Lib.hid (by
    have hx : xs.length = n * 3 := hown.1
    have e1 : xs.take (n * 3) = xs := List.take_of_length_le (by omega)
    have e2 : xs.drop (n * 3) = [] := List.drop_eq_nil_of_le (by omega)
    rcases hown'.2 with ⟨h1, h2⟩ | ⟨g, cap, cur, rfl, _⟩
    · omega
    · refine ⟨g, cap, rfl, by rw [e1, e2, List.append_nil]; exact hown', hg, ?_⟩
      rcases hat with h | h
      · exact .inl h.symm
      · simp only [Value.ownBlock, Option.some.injEq] at h; exact .inr (by omega))
  have HR := Lib.hid hrun
  clear hsrc hrun hown' hg hnil hat hown hvb hu1
  have hne : ((1 : Int) == 0) = false := by decide
  by_cases hcn : c = n
  · subst hcn
    go_enter Tryz.func42, Tryz.ntmps42
    go_wp2_with (at_builtin; refine wpList_append_runK _ rfl (.tmp 23) (.tmp 24) 47 47 rfl _ _ rfl rfl HR.out ?_)
    go_ret
    exact HP.out
  · go_enter Tryz.func42, Tryz.ntmps42
    go_wp2_with (at_builtin; refine wpList_append_runK _ rfl (.tmp 23) (.tmp 24) 47 47 rfl _ _ rfl rfl HR.out ?_)
    go_ret
    exact HP.out
set_option maxRecDepth 100000 in
set_option maxHeartbeats 4000000 in
theorem insHeld_shift (g n c i B vb : Nat) (xs us : List Value) (w : World) (hown : w.ownsRow B 54 3 (.slice (some ⟨g, 0, none⟩) n c) n xs) (hB : B ≤ w.heap.size) (hi : i < n) (hn : n < 100000) (hroom : n < c) (hus : us.length = 3) (hu1 : ∀ u ∈ us, u.oneCell' = true) (hx1 : ∀ u ∈ xs, u.oneCell' = true) (hvb : Blk w vb 54 us) (hne : vb ≠ g) :
    Calls Tryz.prog 42 #[.slice (some ⟨g, 0, none⟩) n c, .int .i64 i, .slice (some ⟨vb, 0, none⟩) 1 1] w (InsPostHeld B (.slice (some ⟨g, 0, none⟩) n c) n i xs us w) := by
  have hxl : xs.length = n * 3 := hown.1
  obtain ⟨cur, hBg, hg, hcm, hcs, htk⟩ : ∃ cur : Array Value, B ≤ g ∧ w.heap[g]? = some (.cells cur 54 (0, 0)) ∧ c ≤ maxLen ∧ cur.size = c * 3 ∧ cur.toList.take (n * 3) = xs := by
    rcases hown.2 with ⟨h1, _⟩ | ⟨g', cap, cur, h1, hb, hh, h2, h3, h4, h5⟩
    · cases h1
    · injection h1 with h1 _ h6
      injection h1 with h1
      injection h1 with h1
      subst h1 h6
      exact ⟨cur, hb, hh, h3, h4, h5⟩
  unfold maxLen at hcm
  obtain ⟨ti, hi0, hz, hi1, hi2⟩ := info_parts held_info
  have hsz : (Tryz.prog.info? 54).map (·.size) = some 3 := by rw [hi0]; simp [hi1]
  have hgl : g < w.heap.size := (Array.getElem?_eq_some_iff.1 hg).1
  have hxd : (xs.drop (i * 3)).length = (n - i) * 3 := by rw [List.length_drop, hxl, Nat.sub_mul]
  have hfit : (i + 1) * 3 + (xs.drop (i * 3)).length ≤ cur.size := by rw [hxd, hcs]; omega
  -- the first copy
  obtain ⟨c1, hc1⟩ : ∃ c1 : List Value, c1 = cur.toList.take ((i + 1) * 3) ++ xs.drop (i * 3) ++ cur.toList.drop ((i + 1) * 3 + (xs.drop (i * 3)).length) := ⟨_, rfl⟩
  have r1 : ∀ (W : World) (ty : TypeId) (dc sc : Nat), W.heap = w.heap → (Builtin.copy_ #[47, 47] ty #[.slice (some ⟨g, (i + 1) * 3, none⟩) (n - i) dc, .slice (some ⟨g, i * 3, none⟩) (n + 1 - i) sc]).run Tryz.prog W = .ok (goInt ((n - i : Nat) : Int)) (W.setRow g c1.toArray) := fun W ty dc sc hW => by
    rw [hc1]
    refine run_copy_rowK W _ _ ty 54 3 g ((i + 1) * 3) (n - i) dc ⟨g, i * 3, none⟩ (n + 1 - i) sc (n - i) cur 54 (xs.drop (i * 3)) Tryz.underlying47 hsz (by rw [hW]; exact hg) (by simp only [Nat.min_def]; split <;> omega) hxd (fun j v hj => ?_) hfit (fun v hv => hx1 v (List.mem_of_mem_drop hv))
    rw [row_cell (t := 54) (cur := cur) (by rw [hW]; exact hg)]
    rw [List.getElem?_drop, ← htk] at hj
    rw [← Array.getElem?_toList]
    have hlt : i * 3 + j < n * 3 := by
      have := (List.getElem?_eq_some_iff.1 hj).1
      rw [List.length_take] at this
      omega
    rwa [List.getElem?_take_of_lt hlt] at hj
  have hl1 : c1.length = cur.size := by
    rw [hc1]
    simp only [List.length_append, List.length_take, List.length_drop, Array.length_toList]
    omega
  obtain ⟨c2, hc2⟩ : ∃ c2 : List Value, c2 = c1.take (i * 3) ++ us ++ c1.drop (i * 3 + us.length) := ⟨_, rfl⟩
  have r2 : ∀ (W : World) (ty : TypeId) (dc : Nat), W.heap = (w.setRow g c1.toArray).heap → (Builtin.copy_ #[47, 47] ty #[.slice (some ⟨g, i * 3, none⟩) (n + 1 - i) dc, .slice (some ⟨vb, 0, none⟩) 1 1]).run Tryz.prog W = .ok (goInt 1) (W.setRow g c2.toArray) := fun W ty dc hW => by
    have hg1 : W.heap[g]? = some (.cells c1.toArray 54 (0, 0)) := by rw [hW]; exact setRow_heap w g cur c1.toArray _ _ hg
    have hv1 : W.heap[vb]? = some (.cells us.toArray 54 (0, 0)) := by rw [hW]; exact (setRow_other w g vb c1.toArray hne).trans hvb
    rw [hc2]
    have := run_copy_rowK (P := Tryz.prog) W 47 47 ty 54 3 g (i * 3) (n + 1 - i) dc ⟨vb, 0, none⟩ 1 1 1 c1.toArray 54 us Tryz.underlying47 hsz hg1 (by simp only [Nat.min_def]; split <;> omega) (by omega) (fun j v hj => by rw [row_cell hv1, Nat.zero_add]; simpa using hj) (by simp only [List.size_toArray]; omega) hu1
    exact this
  have HP : Hid (∀ W : World, W.heap = ((w.setRow g c1.toArray).setRow g c2.toArray).heap → W.os = w.os → W.output = w.output → W.tape = w.tape → InsPostHeld B (.slice (some ⟨g, 0, none⟩) n c) n i xs us w (.returned (.slice (some ⟨g, 0, none⟩) (n + 1) c)) W) := Lib.hid (fun W hW h1 h2 h3 => by
    obtain ⟨k1, k2⟩ : c2.length = cur.toList.length ∧ c2.take ((n + 1) * 3) = xs.take (i * 3) ++ us ++ xs.drop (i * 3) := by
      rw [hc2, hc1]
      exact ins_row cur.toList xs us n i 3 hi hxl htk hus (by rw [Array.length_toList, hcs]; omega)
    rw [Array.length_toList] at k1
    have hg1 := setRow_heap w g cur c1.toArray _ _ hg
    have hg2 : W.heap[g]? = some (.cells c2.toArray 54 (0, 0)) := by rw [hW]; exact setRow_heap _ g c1.toArray c2.toArray _ _ hg1
    have hln : (xs.take (i * 3) ++ us ++ xs.drop (i * 3)).length = (n + 1) * 3 := by
      simp only [List.length_append, List.length_take, hxd, hus, hxl, Nat.min_def]
      split <;> omega
    refine ⟨g, c, rfl, ⟨hln, .inr ⟨g, c, c2.toArray, rfl, hBg, hg2, hroom, by unfold maxLen; omega, by simp only [List.size_toArray]; exact k1.trans (by rw [Array.length_toList, hcs]), by simpa using k2⟩⟩, ⟨h1, h3, h2, ?_, fun k hk hne' => ?_⟩, .inl rfl⟩
    · rw [hW]; simp [World.setRow]
    · have : k ≠ g := fun e => hne' (by rw [e]; rfl)
      rw [hW, setRow_other _ _ _ _ this, setRow_other _ _ _ _ this])
  have R1 := Lib.hid r1
  have R2 := Lib.hid (fun ty dc => r2 (w.drew.setRow g c1.toArray) ty dc rfl)
  have hov : ∀ lb cb, (callFunc 75 #[.slice (some ⟨vb, 0, none⟩) 1 1, .slice (some ⟨g, (i + 1) * 3, none⟩) lb cb]).run Tryz.prog w = .ok (.value (.bool false)) w := fun lb cb => by
    rw [run_callFunc_extern Tryz.func75 (by kernel_rfl) (by kernel_rfl) (by kernel_rfl) (e := Extern.SlicesOverlaps.overlaps #[47, 47] #[4]) (by kernel_rfl),
      Lib.run_overlaps_apart w 47 4 54 Tryz.underlying47 3 (fun _ => by kernel_rfl) ⟨vb, 0, none⟩ ⟨g, (i + 1) * 3, none⟩ 1 1 lb cb hne 54 54 3 cur.size
        (by unfold World.shape?; rw [show w.heap[vb]? = _ from hvb]; simp [hus]) (by unfold World.shape?; rw [hg]) (by omega) (hvb.frozen 0) (hvb.frozen 3)]
    rfl
  clear hown hu1 hx1 hvb r1 r2 htk hg hfit hxd hl1 hc1 hc2 hxl hus hi0 hz hi1 hi2 hsz hcs
  have hw1 : IntKind.i64.wrap ((i : Int) + 1) = (i : Int) + 1 := by rw [IntKind.wrap_i64]; omega
  have hb0 : (0 : Int) ≤ (i : Int) + 1 := by omega
  have hb1 : ((i : Int) + 1).toNat = i + 1 := by omega
  have hb2 : ¬ (c = i + 1) := by omega
  have hb3 : (i : Int) ≤ (n : Int) := by omega
  have hb4 : ¬ (c = i) := by omega
  have hb5 : (i : Int) + 1 ≤ (n : Int) + 1 := by omega
  have hb6 : ¬ ((i : Int) = (n : Int)) := by omega
  have hb12 : (i : Int) ≤ (n : Int) + 1 := by omega
  have hb7 : ((i : Int) == (n : Int)) = false := by rw [beq_eq_false_iff_ne]; exact hb6
  have hb8 : ¬ (c : Int) < (n : Int) + 1 := by omega
  have hb9 : decide ((n : Int) + 1 > (c : Int)) = false := decide_eq_false (by omega)
  go_enter Tryz.func42, Tryz.ntmps42
  go_wp2_with (simp only [hov])
  go_region_law (refine step_copy_runK rfl (.tmp 73) (.tmp 76) 47 47 rfl (.slice (some ⟨g, (i + 1) * 3, none⟩) (n - i) (c - (i + 1))) (.slice (some ⟨g, i * 3, none⟩) (n + 1 - i) (c - i)) (by simp [Act.eval, Act.put]) (by simp [Act.eval, Act.put]) (R1.out w.drew _ _ _ rfl) ?_)
  go_wp2_with (with_reducible refine wpList_copy_runK _ rfl (.tmp 80) (.tmp 81) 47 47 rfl _ _ rfl rfl (R2.out _ _) ?_)
  go_ret
  exact HP.out _ rfl rfl rfl rfl
set_option maxRecDepth 100000 in
set_option maxHeartbeats 4000000 in
theorem insHeld_grow (g n i B vb : Nat) (xs us : List Value) (w : World) (hown : w.ownsRow B 54 3 (.slice (some ⟨g, 0, none⟩) n n) n xs) (hB : B ≤ w.heap.size) (hi : i < n) (hn : n < 100000) (hus : us.length = 3) (hu1 : ∀ u ∈ us, u.oneCell' = true) (hx1 : ∀ u ∈ xs, u.oneCell' = true) (hvb : Blk w vb 54 us) :
    Calls Tryz.prog 42 #[.slice (some ⟨g, 0, none⟩) n n, .int .i64 i, .slice (some ⟨vb, 0, none⟩) 1 1] w (InsPostHeld B (.slice (some ⟨g, 0, none⟩) n n) n i xs us w) := by
  have hxl : xs.length = n * 3 := hown.1
  obtain ⟨cur, hBg, hg, hcm, hcs, htk⟩ : ∃ cur : Array Value, B ≤ g ∧ w.heap[g]? = some (.cells cur 54 (0, 0)) ∧ n ≤ maxLen ∧ cur.size = n * 3 ∧ cur.toList.take (n * 3) = xs := by
    rcases hown.2 with ⟨h1, _⟩ | ⟨g', cap, cur, h1, hb, hh, h2, h3, h4, h5⟩
    · cases h1
    · injection h1 with h1 _ h6
      injection h1 with h1
      injection h1 with h1
      subst h1 h6
      exact ⟨cur, hb, hh, h3, h4, h5⟩
  obtain ⟨ti, hi0, hz, hi1, hi2⟩ := info_parts held_info
  have hsz : (Tryz.prog.info? 54).map (·.size) = some 3 := by rw [hi0]; simp [hi1]
  have hgl : g < w.heap.size := (Array.getElem?_eq_some_iff.1 hg).1
  have hvl : vb < w.heap.size := hvb.lt
  have hxd : (xs.drop (i * 3)).length = (n - i) * 3 := by rw [List.length_drop, hxl, Nat.sub_mul]
  have hxt : (xs.take (i * 3)).length = i * 3 := by rw [List.length_take]; omega
  have hold : (Builtin.firstCells ti.size i (.slice (some ⟨g, 0, none⟩) i n)).run Tryz.prog w.drew = .ok (xs.take (i * 3)).toArray w.drew := by
    rw [hi1]
    refine run_firstCells_some w.drew 3 i ⟨g, 0, none⟩ i n (xs.take (i * 3)) hxt (fun j v hj => ?_)
    rw [row_cell (w := w.drew) (t := 54) (cur := cur) hg, Nat.zero_add, ← Array.getElem?_toList]
    have hlt : j < i * 3 := by have := (List.getElem?_eq_some_iff.1 hj).1; omega
    rw [List.getElem?_take_of_lt hlt, ← htk, List.getElem?_take_of_lt (by omega)] at hj
    exact hj
  have hrz0 := Lib.run_append_grow_zeros (P := Tryz.prog) w 47 3 47 54 ti _ .i64 .i64 Tryz.underlying47 Tryz.underlying3 hi0 hz (some ⟨g, 0, none⟩) i n (xs.take (i * 3)) hold (n + 1 - i) (by omega) (by omega) (by omega) (by omega) (by rw [hi2]; omega) (by rw [hi2, show i + (n + 1 - i) = n + 1 by omega]; exact growslice_fits (by omega) (by omega))
  rw [show i + (n + 1 - i) = n + 1 by omega, show ((n + 1 - i : Nat) : Int) = (n : Int) + 1 - (i : Int) by omega] at hrz0
  obtain ⟨G, hG⟩ : ∃ G, G = grownCap w (n + 1) n 54 := ⟨_, rfl⟩
  have hGn : n + 1 ≤ G := by rw [hG]; exact grownCap_ge w _ _ _
  have hGm : G ≤ maxLen := by rw [hG]; exact grownCap_le_maxLen w (n + 1) n 54 (by unfold maxLen; omega)
  rw [← hG] at hrz0
  obtain ⟨zs, hzs, hzl⟩ : ∃ zs : List Value, (xs.take (i * 3)).toArray ++ Builtin.zeroCells (Value.cells (.agg #[.string ⟨#[]⟩, .string ⟨#[]⟩, .string ⟨#[]⟩])) (n + 1 - i) ++ Builtin.zeroCells (Value.cells (.agg #[.string ⟨#[]⟩, .string ⟨#[]⟩, .string ⟨#[]⟩])) (G - (n + 1)) = (xs.take (i * 3) ++ zs).toArray ∧ zs.length = (n + 1 - i) * 3 + (G - (n + 1)) * 3 := by
    refine ⟨(Builtin.zeroCells (Value.cells (.agg #[.string ⟨#[]⟩, .string ⟨#[]⟩, .string ⟨#[]⟩])) (n + 1 - i)).toList ++ (Builtin.zeroCells (Value.cells (.agg #[.string ⟨#[]⟩, .string ⟨#[]⟩, .string ⟨#[]⟩])) (G - (n + 1))).toList, by apply Array.toList_inj.1; simp, ?_⟩
    simp [Builtin.zeroCells, Value.cells]
  rw [hzs] at hrz0
  obtain ⟨c0, hc0⟩ : ∃ c0 : List Value, c0 = xs.take (i * 3) ++ zs := ⟨_, rfl⟩
  obtain ⟨c1, hc1⟩ : ∃ c1 : List Value, c1 = c0.take (i * 3) ++ us ++ c0.drop (i * 3 + us.length) := ⟨_, rfl⟩
  obtain ⟨c2, hc2⟩ : ∃ c2 : List Value, c2 = c1.take ((i + 1) * 3) ++ (xs.drop (i * 3)) ++ c1.drop ((i + 1) * 3 + (xs.drop (i * 3)).length) := ⟨_, rfl⟩
  have hl0 : c0.length = G * 3 := by rw [hc0, List.length_append, hxt, hzl]; omega
  have hl1 : c1.length = G * 3 := by
    rw [hc1]
    simp only [List.length_append, List.length_take, List.length_drop]
    omega
  rw [← hc0] at hrz0
  have hN : (w.drew.alloc (.cells c0.toArray 54)).heap[w.heap.size]? = some (.cells c0.toArray 54 (0, 0)) := heap_alloc_new w.drew _
  have r1 : ∀ (W : World) (ty : TypeId) (dc : Nat), W.heap = (w.drew.alloc (.cells c0.toArray 54)).heap → (Builtin.copy_ #[47, 47] ty #[.slice (some ⟨w.heap.size, i * 3, none⟩) (n + 1 - i) dc, .slice (some ⟨vb, 0, none⟩) 1 1]).run Tryz.prog W = .ok (goInt 1) (W.setRow w.heap.size c1.toArray) := fun W ty dc hW => by
    rw [hc1]
    have hv1 : W.heap[vb]? = some (.cells us.toArray 54 (0, 0)) := by rw [hW]; exact (Below.heap_alloc w.drew _ vb hvl).trans hvb
    have := run_copy_rowK (P := Tryz.prog) W 47 47 ty 54 3 w.heap.size (i * 3) (n + 1 - i) dc ⟨vb, 0, none⟩ 1 1 1 c0.toArray 54 us Tryz.underlying47 hsz (by rw [hW]; exact hN) (by simp only [Nat.min_def]; split <;> omega) (by omega) (fun j v hj => by rw [row_cell hv1, Nat.zero_add]; simpa using hj) (by simp only [List.size_toArray]; omega) hu1
    exact this
  have r2 : ∀ (W : World) (ty : TypeId) (dc sc : Nat), W.heap = ((w.drew.alloc (.cells c0.toArray 54)).setRow w.heap.size c1.toArray).heap → (Builtin.copy_ #[47, 47] ty #[.slice (some ⟨w.heap.size, (i + 1) * 3, none⟩) (n - i) dc, .slice (some ⟨g, i * 3, none⟩) (n - i) sc]).run Tryz.prog W = .ok (goInt ((n - i : Nat) : Int)) (W.setRow w.heap.size c2.toArray) := fun W ty dc sc hW => by
    have hg1 : W.heap[w.heap.size]? = some (.cells c1.toArray 54 (0, 0)) := by rw [hW]; exact setRow_heap _ _ _ c1.toArray _ _ hN
    have hg2 : W.heap[g]? = some (.cells cur 54 (0, 0)) := by rw [hW, setRow_other _ _ g _ (by omega)]; exact (Below.heap_alloc w.drew _ g hgl).trans hg
    rw [hc2]
    have := run_copy_rowK (P := Tryz.prog) W 47 47 ty 54 3 w.heap.size ((i + 1) * 3) (n - i) dc ⟨g, i * 3, none⟩ (n - i) sc (n - i) c1.toArray 54 (xs.drop (i * 3)) Tryz.underlying47 hsz hg1 (by simp only [Nat.min_def]; split <;> omega) hxd (fun j v hj => by
      rw [row_cell hg2]
      rw [List.getElem?_drop, ← htk] at hj
      rw [← Array.getElem?_toList]
      have hlt : i * 3 + j < n * 3 := by
        have := (List.getElem?_eq_some_iff.1 hj).1
        rw [List.length_take] at this
        omega
      rwa [List.getElem?_take_of_lt hlt] at hj) (by simp only [List.size_toArray]; omega) (fun v hv => hx1 v (List.mem_of_mem_drop hv))
    exact this
  have HP : Hid (∀ W : World, W.heap = (((w.drew.alloc (.cells c0.toArray 54)).setRow w.heap.size c1.toArray).setRow w.heap.size c2.toArray).heap → W.os = w.os → W.output = w.output → W.tape = w.tape → InsPostHeld B (.slice (some ⟨g, 0, none⟩) n n) n i xs us w (.returned (.slice (some ⟨w.heap.size, 0, none⟩) (n + 1) G)) W) := Lib.hid (fun W hW h1 h2 h3 => by
    obtain ⟨k1, k2⟩ : c2.length = c0.length ∧ c2.take ((n + 1) * 3) = xs.take (i * 3) ++ us ++ xs.drop (i * 3) := by
      rw [hc2, hc1, hc0]
      exact ins_new xs us zs n i 3 hi hxl hus (by omega)
    have hg1 := setRow_heap _ _ _ c1.toArray _ _ hN
    have hg2 : W.heap[w.heap.size]? = some (.cells c2.toArray 54 (0, 0)) := by rw [hW]; exact setRow_heap _ _ c1.toArray c2.toArray _ _ hg1
    have hln : (xs.take (i * 3) ++ us ++ xs.drop (i * 3)).length = (n + 1) * 3 := by
      simp only [List.length_append, hxt, hxd, hus]
      omega
    refine ⟨w.heap.size, G, rfl, ⟨hln, .inr ⟨w.heap.size, G, c2.toArray, rfl, hB, hg2, hGn, hGm, by simp only [List.size_toArray]; exact k1.trans hl0, by simpa using k2⟩⟩, ⟨h1, h3, h2, ?_, fun k hk hne' => ?_⟩, .inr (Nat.le_refl _)⟩
    · rw [hW]; simp [World.setRow]
    · rw [hW, setRow_other _ _ _ _ (by omega), setRow_other _ _ _ _ (by omega)]
      exact Below.heap_alloc w.drew _ k hk)
  have R0 := Lib.hid hrz0
  have R1 := Lib.hid r1
  have R2 := Lib.hid r2
  unfold maxLen at hGm
  clear hown hu1 hx1 hvb r1 r2 htk hg hxd hxt hl0 hl1 hc0 hc1 hc2 hxl hus hi0 hz hi1 hi2 hsz hcs hold hrz0 hzs hzl hN hG hcm
  have hw1 : IntKind.i64.wrap ((i : Int) + 1) = (i : Int) + 1 := by rw [IntKind.wrap_i64]; omega
  have hb0 : (0 : Int) ≤ (i : Int) + 1 := by omega
  have hb1 : ((i : Int) + 1).toNat = i + 1 := by omega
  have hb2 : ¬ (n = i) := by omega
  have hb3 : (i : Int) ≤ (n : Int) := by omega
  have hb4 : ¬ (G = i) := by omega
  have hb5 : (i : Int) + 1 ≤ (n : Int) + 1 := by omega
  have hb6 : ¬ ((i : Int) = (n : Int)) := by omega
  have hb12 : (i : Int) ≤ (n : Int) + 1 := by omega
  have hb7 : ((i : Int) == (n : Int)) = false := by rw [beq_eq_false_iff_ne]; exact hb6
  have hb8 : (n : Int) < (n : Int) + 1 := by omega
  have hb9 : decide ((n : Int) + 1 > (n : Int)) = true := decide_eq_true (by omega)
  have hb10 : ¬ (G = i + 1) := by omega
  go_enter Tryz.func42, Tryz.ntmps42
  go_wp2_with (first
    | (at_builtin; refine wpList_append_runK _ rfl (.tmp 34) (.tmp 39) 47 3 rfl _ _ rfl rfl R0.out ?_)
    | (with_reducible refine wpList_copy_runK _ rfl (.tmp 43) (.tmp 44) 47 47 rfl _ _ rfl rfl (R1.out _ _ _ rfl) ?_))
  go_region_law (refine step_copy_runK rfl (.tmp 50) (.tmp 53) 47 47 rfl (.slice (some ⟨w.heap.size, (i + 1) * 3, none⟩) (n - i) (G - (i + 1))) (.slice (some ⟨g, i * 3, none⟩) (n - i) (n - i)) (by simp [Act.eval, Act.put]) (by simp [Act.eval, Act.put]) (R2.out _ _ _ _ rfl) ?_)
  go_wp2_with fail
  go_ret
  exact HP.out _ rfl rfl rfl rfl
theorem insHeld_any (v : Value) (n i B vb : Nat) (xs us : List Value) (w : World) (hown : w.ownsRow B 54 3 v n xs) (hB : B ≤ w.heap.size) (hi : i ≤ n) (hn : n < 100000) (hus : us.length = 3) (hu1 : ∀ u ∈ us, u.oneCell' = true) (hx1 : ∀ u ∈ xs, u.oneCell' = true) (hvb : Blk w vb 54 us) (hne : some vb ≠ v.ownBlock) :
    Calls Tryz.prog 42 #[v, .int .i64 i, .slice (some ⟨vb, 0, none⟩) 1 1] w (InsPostHeld B v n i xs us w) := by
  rcases Nat.lt_or_eq_of_le hi with hlt | rfl
  · rcases hown.2 with ⟨rfl, h2⟩ | ⟨g, cap, cur, rfl, hBg, hg, hnc, hcm, hcs, htk⟩
    · omega
    · have hvg : vb ≠ g := fun e => hne (by rw [e]; rfl)
      by_cases hc : n < cap
      · exact insHeld_shift g n cap i B vb xs us w hown hB hlt hn hc hus hu1 hx1 hvb hvg
      · obtain rfl : cap = n := by omega
        exact insHeld_grow g cap i B vb xs us w hown hB hlt hn hus hu1 hx1 hvb
  · exact insHeld_end v i B vb xs us w hown hB hn hus hu1 hvb
end Go.Proofs.YtnkdcmibafjplaaGreatDoor
