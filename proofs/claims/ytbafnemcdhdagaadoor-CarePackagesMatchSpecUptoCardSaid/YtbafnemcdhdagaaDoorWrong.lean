/-
  'Wrong' of care.
-/
import Derived.Test.YtbafnemcdhdagaaDoorProg
import Derived.Test.YtbafnemcdhdagaaDoorWrongP
import Derived.Test.YtbafnemcdhdagaaDoorSortD
import Derived.Deep.Onto
import Derived.Deep.RegionHeld3
namespace Go.Proofs.YtbafnemcdhdagaaDoor
open Go.RowKit
set_option linter.unusedVariables false
set_option linter.unusedSimpArgs false

def WrongPost (n : List UInt8) (E : List Ent) (F : List FileR) (w : World) (e : Ending) (w' : World) : Prop :=
  ∃ v out, e = .returned (.tuple #[v, .int .i64 (wrFault n E F)]) ∧ (Rp.sl defRp).ok w' (· < w'.heap.size) [v] out ∧ Below w.heap.size w w' ∧ (wrFault n E F = 0 → out.Perm (wrongL E F) ∧ out.Pairwise (fun x y => Op.bytesLess y.path x.path = false)) ∧ (wrFault n E F ≠ 0 → out = [])
theorem WrongPost.bad {n : List UInt8} {E : List Ent} {F : List FileR} {w w' : World} {f : Int} (h : wrFault n E F = f) (h0 : f ≠ 0) (hb : Below w.heap.size w w') : WrongPost n E F w (.returned (.tuple #[.slice none 0 0, .int .i64 f])) w' :=
  ⟨_, [], by rw [h], Rp.sl_nil _ _ _, hb, fun h' => absurd (h.symm.trans h') h0, fun _ => rfl⟩
theorem row_push {w : World} {B : Nat} {v : Value} {L : List Def} {d : Def} (h : w.ownsRow B 66 2 v (L.length + 1) (L.flatMap defCells ++ defCells d)) : w.ownsRow B 66 2 v (L ++ [d]).length ((L ++ [d]).flatMap defCells) := by
  rw [List.length_append, List.flatMap_append]
  simpa using h
/-- Behind an alloc and a map's update. -/
theorem w_step {w3 wr : World} {K : TypeId} {z : Value} {k : Nat} {g : Lit → Option Value} {vo : Value} {m : Nat} {xs : List Value} (hG : VMap Tryd.prog K z wr w3.heap.size k g) (hO : wr.ownsRow w3.heap.size 66 2 vo m xs) (hB : Below w3.heap.size w3 wr) (us : List Value) (T : TypeId) :
    ∀ w6, (wr.alloc (.cells us.toArray T)).grownBy w6 (some w3.heap.size) → Blk w6 wr.heap.size T us ∧ w6.ownsRow w3.heap.size 66 2 vo m xs ∧ Below w3.heap.size w3 w6 := by
  intro w6 hg
  refine ⟨(Blk.new wr T us).grown_ hg (fun e => by injection e with e; have := hG.lt; omega), ?_, (hB.alloc hB.size _).grown hg (hB.alloc hB.size _).size (fun j e => by injection e with e; omega)⟩
  refine (hO.kept (below_grown ((Below.refl wr.heap.size wr).alloc (Nat.le_refl _) _)) (by cases hv : vo.ownBlock <;> simp)).kept hg (.inr (hG.notRow hO).symm)
theorem w_alloc {w3 wr : World} {vo : Value} {m : Nat} {xs : List Value} (hO : wr.ownsRow w3.heap.size 66 2 vo m xs) (hB : Below w3.heap.size w3 wr) (o : Obj) :
    (wr.alloc o).ownsRow w3.heap.size 66 2 vo m xs ∧ Below w3.heap.size w3 (wr.alloc o) :=
  ⟨hO.kept (below_grown ((Below.refl wr.heap.size wr).alloc (Nat.le_refl _) _)) (by cases hv : vo.ownBlock <;> simp), hB.alloc hB.size _⟩
theorem w_call {w3 w6 w8 : World} {K : TypeId} {z : Value} {k : Nat} {g : Lit → Option Value} {vo : Value} {m : Nat} {xs : List Value} {X : Nat} {T : TypeId} {us : List Value} (hG : VMap Tryd.prog K z w6 w3.heap.size k g) (hO : w6.ownsRow w3.heap.size 66 2 vo m xs) (hB : Below w3.heap.size w3 w6) (hK : Blk w6 X T us)
    (hb : Below w6.heap.size w6 w8) : VMap Tryd.prog K z w8 w3.heap.size k g ∧ w8.ownsRow w3.heap.size 66 2 vo m xs ∧ Below w3.heap.size w3 w8 ∧ Blk w8 X T us :=
  ⟨hG.below hb hG.lt, hO.kept (below_grown hb) (by cases hv : vo.ownBlock <;> simp), hB.trans (hb.mono hB.size), hK.grown_ (below_grown hb) (by simp)⟩
theorem defOf_mem {F : List FileR} {x : Ent} {d : Def} (h : d ∈ defOf F x) : d.path = x.path ∧ 1 ≤ d.kind ∧ d.kind ≤ 4 := by
  unfold defOf at h
  split at h
  · obtain rfl := List.mem_singleton.1 h; exact ⟨rfl, by dsimp only; omega, by dsimp only; omega⟩
  · split at h
    · obtain rfl := List.mem_singleton.1 h; exact ⟨rfl, by dsimp only; omega, by dsimp only; omega⟩
    · split at h
      · obtain rfl := List.mem_singleton.1 h; exact ⟨rfl, by dsimp only; omega, by dsimp only; omega⟩
      · cases h
theorem newOf_mem {E : List Ent} {y : FileR} {d : Def} (h : d ∈ newOf E y) : d.path = y.path ∧ 1 ≤ d.kind ∧ d.kind ≤ 4 := by
  unfold newOf at h
  split at h
  · cases h
  · obtain rfl := List.mem_singleton.1 h; exact ⟨rfl, by dsimp only; omega, by dsimp only; omega⟩
theorem wrongL_ok {w : World} {S : Nat → Prop} {v0 v1 : Value} {E : List Ent} {F : List FileR} (h0 : (Rp.sl entRp).ok w S [v0] E) (h1 : (Rp.sl fileRp).ok w S [v1] F) : ∀ d ∈ wrongL E F, d.path.length ≤ maxLen ∧ (Lit.int .i64 d.kind).wf = true := by
  intro d hd
  rcases List.mem_append.1 hd with hd | hd
  · obtain ⟨x, hx, hd⟩ := List.mem_flatMap.1 hd
    obtain ⟨h, hk⟩ := defOf_mem hd
    obtain ⟨j, hj, rfl⟩ := List.mem_iff_getElem.1 hx
    obtain ⟨_, _, _, _, _, _, _, hz, _⟩ := ent_at h0 hj
    exact ⟨by rw [h]; unfold maxLen; omega, WalkArith.wf_i64 (by omega)⟩
  · obtain ⟨x, hx, hd⟩ := List.mem_flatMap.1 hd
    obtain ⟨h, hk⟩ := newOf_mem hd
    obtain ⟨j, hj, rfl⟩ := List.mem_iff_getElem.1 hx
    obtain ⟨_, _, _, _, _, _, _, hz, _⟩ := file_at h1 hj
    exact ⟨by rw [h]; unfold maxLen; omega, WalkArith.wf_i64 (by omega)⟩
theorem pack_ok {n : List UInt8} {E : List Ent} (h : packFault n E = 0) : E.length ≤ 500 := by
  unfold packFault at h
  split at h
  · omega
  · unfold entsFault at h
    split at h
    · omega
    · omega
set_option maxRecDepth 100000 in
set_option maxHeartbeats 4000000 in
theorem wrong_any (n : List UInt8) (v0 : Value) (E : List Ent) (v1 : Value) (F : List FileR) (w : World) (h0 : (Rp.sl entRp).ok w (· < w.heap.size) [v0] E) (h1 : (Rp.sl fileRp).ok w (· < w.heap.size) [v1] F) (hG : GInt w) (hn : n.length ≤ 9223372036854775807) :
    Calls Tryd.prog 26 #[.agg #[.string (bstr n), v0], v1] w (WrongPost n E F w) := by
  obtain ⟨A, c, rfl, hl, hc, _⟩ := Rp.sl_open h0
  obtain ⟨A', c', rfl, hl', hc', _⟩ := Rp.sl_open h1
  unfold maxLen at hc hc'
  have hmm := @run_makeMap Tryd.prog
  have hab := (Below.refl w.heap.size w).alloc (Nat.le_refl _) (.cells #[.string (bstr n), .slice A E.length c] 55)
  have hkb := Blk.new w 55 [.string (bstr n), .slice A E.length c]
  have H0 := Lib.hid h0
  have H1 := Lib.hid h1
  have HG := Lib.hid (hG.ext hab)
  have HGI := Lib.hid hG
  have HAB := Lib.hid hab
  have HKB := Lib.hid hkb
  have hlt0 : w.heap.size < (w.alloc (.cells #[.string (bstr n), .slice A E.length c] 55)).heap.size := by simp
  clear h0 h1 hG hab hkb
  go_enter Tryd.func26, Tryd.ntmps26
  have HMM := Lib.hid hmm
  clear hmm
  go_wp2_with fail
  refine (checkPackage_any n _ E _ (Rp.ext _ H0.out HAB.out) HG.out hn).mono ?_
  rintro e w1 ⟨rfl, hb1⟩
  have HB1 := Lib.hid (HAB.out.trans (hb1.mono HAB.out.size))
  have HK1 := Lib.hid (HKB.out.same (same_below hb1) hlt0)
  have hlw1 : w.heap.size < w1.heap.size := by have := hb1.size; omega
  clear HG HAB HKB hlt0 hb1
  by_cases hf : packFault n E = 0
  case neg =>
    have HP := Lib.hid (WrongPost.bad (w := w) (w' := w1) (n := n) (E := E) (F := F) (by rw [wrFault, if_neg hf]) hf HB1.out)
    generalize packFault n E = f at *
    go_wp2_with fail
    go_ret2
    exact HP.out
  have HPF : Hid (wrFault n E F = filesFault F) := Lib.hid (by rw [wrFault, if_pos hf])
  have HPK := Lib.hid hf
  rw [hf]
  clear hf
  go_wp2_with fail
  refine (checkFiles_any _ F w1 (Rp.ext _ H1.out HB1.out) (HGI.out.ext HB1.out)).mono ?_
  rintro e w2 ⟨rfl, hb2⟩
  have HB2 := Lib.hid (HB1.out.trans (hb2.mono HB1.out.size))
  have HK2 := Lib.hid (HK1.out.same (same_below hb2) hlw1)
  have hlw2 : w.heap.size < w2.heap.size := by have := hb2.size; omega
  clear hb2 HK1 HB1 hlw1
  by_cases hf : filesFault F = 0
  case neg =>
    have HP := Lib.hid (WrongPost.bad (w := w) (w' := w2) (n := n) (E := E) (F := F) HPF.out hf HB2.out)
    generalize filesFault F = f at *
    go_wp2_with fail
    go_ret2
    exact HP.out
  rw [hf]
  have HWF : Hid (wrFault n E F = 0) := Lib.hid (HPF.out.trans hf)
  have hF5 := (files_ok hf).1
  clear hf HPF
  have hmm := HMM.out
  go_wp2_with fail
  clear hmm
  have HM0 := Lib.hid (VMap.made (P := Tryd.prog) (K := 9) (z := .slice none 0 0) w2)
  have HBM := Lib.hid ((Below.refl w2.heap.size w2).alloc (Nat.le_refl _) (.map #[] 0))
  go_loopw [32] (fun vi wr => ∃ (k : Nat) (f : Lit → Option Value), k ≤ F.length ∧ vi = .int .i64 k ∧ Hid (VMap Tryd.prog 9 (.slice none 0 0) wr w2.heap.size k f) ∧ Hid (FRel w f (F.take k)) ∧ Hid (Below w2.heap.size w2 wr)) (fun vi _ => F.length - (intOf vi).toNat)
  case atStart => exact ⟨0, _, by omega, rfl, HM0, FRel.nil w, HBM⟩
  case round =>
    clear HM0 HBM
    obtain ⟨k, f, hk, rfl, HM, HF, HB⟩ := hrel
    by_cases hlt : k < F.length
    · obtain ⟨ad, c2, v2, e1, hadb, c0, c1, hz1, hv2⟩ := file_at H1.out hlt
      injection e1 with e1 _ e3
      subst e1 e3
      obtain ⟨A1, cb, rfl, hcb, hcbm, _⟩ := Rp.sl_open hv2
      have HFP := Lib.hid (HF.out.put hlt hv2)
      have hwb := HB2.out.trans (HB.out.mono (Nat.le_of_lt hlw2))
      have d0 := (hwb.cell (World.block_lt_of_cell? w _ c0)).trans c0
      have d1 := (hwb.cell (World.block_lt_of_cell? w _ c1)).trans c1
      clear hadb hv2 hwb c0 c1 HF
      generalize F[k] = x at *
      have HB5 := Lib.hid (HB.out.alloc HB.out.size (.cells #[.string (bstr x.path), .slice A1 x.bytes.length cb] 116))
      have HM5 := Lib.hid (HM.out.below ((Below.refl wr.heap.size wr).alloc (Nat.le_refl _) (.cells #[.string (bstr x.path), .slice A1 x.bytes.length cb] 116)) HM.out.lt)
      have hkb := Blk.new wr 116 [.string (bstr x.path), .slice A1 x.bytes.length cb]
      have k0 : _ = some (Value.string (bstr x.path)) := hkb.cell 0
      have k1 : _ = some (Value.slice A1 x.bytes.length cb) := hkb.cell 1
      have HKEY := Lib.hid (keyS x.path hz1)
      have hwlt := HM.out.lt
      clear hkb HM HB
      go_wp2_with (at_mapUpdate; refine vmap_update rfl _ _ _ 123 rfl HM5.out (Maps.string_keyed Tryd.underlying9) Tryd.underlying123 (by unfold maxLen; omega) (.string x.path) (.slice A1 x.bytes.length cb) rfl rfl rfl HKEY.out (by trivial) ?_; intro w6 HM6 HG6)
      go_roundw
      case rel => exact ⟨k + 1, _, by omega, by go_num, HM6.out, HFP.out, HB5.out.grown HG6.out HB5.out.size (fun g e => by injection e with e; omega)⟩
      case measure => simp [intOf]; omega
    · obtain rfl : k = F.length := by omega
      rw [List.take_length] at HF
      have hkr := HK2.out.same (same_below HB.out) hlw2
      have k1 : wr.cell? ⟨w.heap.size, 1, none⟩ = some (.slice A E.length c) := hkr.cell 1
      have HB3 := Lib.hid (HB2.out.trans (HB.out.mono (Nat.le_of_lt hlw2)))
      have HKR := Lib.hid hkr
      have hw23 := HM.out.lt
      clear hkr HB HK2 HB2
      rename World => w3
      have hE5 := pack_ok HPK.out
      have k1' := (World.cell?_alloc_lt w3 (.map #[] 0) ⟨w.heap.size, 1, none⟩ (World.block_lt_of_cell? w3 _ k1)).trans k1
      have hmm := HMM.out
      clear k1
      go_wp2_with fail
      clear hmm k1'
      have HG0 := Lib.hid (VMap.made (P := Tryd.prog) (K := 9) (z := .bool false) w3)
      have HBG := Lib.hid ((Below.refl w3.heap.size w3).alloc (Nat.le_refl _) (.map #[] 0))
      go_loopw [12, 46] (fun vo vi wr => ∃ (k : Nat) (g : Lit → Option Value), k ≤ E.length ∧ vi = .int .i64 k ∧ Hid (VMap Tryd.prog 9 (.bool false) wr w3.heap.size k g) ∧ Hid (GRel g (E.take k)) ∧
        Hid (wr.ownsRow w3.heap.size 66 2 vo ((E.take k).flatMap (defOf F)).length (((E.take k).flatMap (defOf F)).flatMap defCells)) ∧ Hid (Below w3.heap.size w3 wr)) (fun _ vi _ => E.length - (intOf vi).toNat)
      case atStart => exact ⟨0, _, by omega, rfl, HG0, GRel.nil, World.ownsRow_nil _ _ _ _, HBG⟩
      case round =>
        clear HG0 HBG
        obtain ⟨k, g, hk, rfl, HGM, HG, HO, HB⟩ := hrel
        by_cases hlt : k < E.length
        · obtain ⟨AO, cO, rfl, hcO, hcO2, hgO⟩ := own_form HO.out
          obtain ⟨ad, c2, e1, hadb, c0, c1, c3, hz1, hz2⟩ := ent_at H0.out hlt
          injection e1 with e1 _ e3
          subst e1 e3
          have hw3 : w.heap.size ≤ w3.heap.size := by omega
          have hwb := HB3.out.trans (HB.out.mono hw3)
          have d0 := (hwb.cell (World.block_lt_of_cell? w _ c0)).trans c0
          have d1 := (hwb.cell (World.block_lt_of_cell? w _ c1)).trans c1
          have d2 := (hwb.cell (World.block_lt_of_cell? w _ c3)).trans c3
          have HGP := Lib.hid (HG.out.put hlt)
          have HTF := Lib.hid (take_flat (defOf F) E k hlt)
          have hle := flatMap_le1 (defOf F) (defOf_len F) (E.take k)
          rw [List.length_take] at hle
          have hle : ((E.take k).flatMap (defOf F)).length ≤ k := by omega
          clear hadb c0 c1 c3 HG hwb
          generalize E[k] = x at *
          generalize (E.take k).flatMap (defOf F) = L at HO HTF hle hcO ⊢
          have HST := Lib.hid (w_step HGM.out HO.out HB.out [.string (bstr x.path), .int .i64 x.size, .string (bstr x.digest)] 119)
          have HM5 := Lib.hid (HGM.out.below ((Below.refl wr.heap.size wr).alloc (Nat.le_refl _) (.cells #[.string (bstr x.path), .int .i64 x.size, .string (bstr x.digest)] 119)) HGM.out.lt)
          have hkb := Blk.new wr 119 [.string (bstr x.path), .int .i64 x.size, .string (bstr x.digest)]
          have k0 : _ = some (Value.string (bstr x.path)) := hkb.cell 0
          have HKEY := Lib.hid (keyS x.path hz1)
          have hwlt := HGM.out.lt
          clear hkb HB HO HGM
          cases hh : haveL F x.path with
          | none =>
            have HLK : Hid (∀ w6, Below w3.heap.size w3 w6 → (Instr.lookup 123 (.map (some w2.heap.size)) (.string (bstr x.path)) true).run Tryd.prog w6 = .ok (.tuple #[.slice none 0 0, .bool false]) w6) := Lib.hid (fun w6 hb => by
              have := (HM.out.below hb hw23).look_ok (T := 123) (Maps.string_keyed Tryd.underlying9) Tryd.underlying123 bytes_zero HKEY.out (by trivial)
              rw [HF.out.none hh] at this; exact this)
            have HHH := Lib.hid hh
            clear hh
            go_wp2_with (first
              | (at_mapUpdate; refine vmap_update rfl _ _ _ 124 rfl HM5.out (Maps.string_keyed Tryd.underlying9) Tryd.underlying124 (by unfold maxLen; omega) (.string x.path) (.bool true) rfl rfl rfl HKEY.out (by trivial) ?_; intro w6 HM6 HG6; obtain ⟨hk6, ho6, hb6⟩ := HST.out w6 HG6.out; have j0 := hk6.cell 0; have j1 := hk6.cell 1; have j2 := hk6.cell 2; simp only [List.getElem?_cons_zero, List.getElem?_cons_succ] at j0 j1 j2; have hlk := HLK.out w6 hb6; have HK6 := Lib.hid hk6; have HO6 := Lib.hid ho6; have HB6 := Lib.hid hb6; have hs6 := hb6.size; clear hk6 ho6 hb6)
              | (at_builtin; refine app_new rfl (.tmp 63) (.tmp 67) 61 rfl 66 _ 2 24 Tryd.underlying61 def_info rfl (by decide) (defCells ⟨x.path, 1⟩) HO6.out (by omega) rfl rfl rfl (by decide) (by simp [defCells, Value.oneCell']) (by unfold maxLen; omega) (by omega) ?_; intro g1 cc1 w7 HO7 HG7 HB7 HL7))
            go_roundw
            case rel => exact ⟨k + 1, _, by omega, by go_num, HM6.out.grown HG7.out (HM6.out.notRow HO6.out), HGP.out, by rw [HTF.out, defOf_none HHH.out]; exact row_push HO7.out, HB7.out _ HB6.out⟩
            case measure => simp [intOf]; omega
          | some b =>
            obtain ⟨v, hfv, hv⟩ := HF.out.some hh
            obtain ⟨A3, c4, rfl, hc3, hc3m, _⟩ := Rp.sl_open hv
            unfold maxLen at hc3m
            have HLK : Hid (∀ w6, Below w3.heap.size w3 w6 → (Instr.lookup 123 (.map (some w2.heap.size)) (.string (bstr x.path)) true).run Tryd.prog w6 = .ok (.tuple #[.slice A3 b.length c4, .bool true]) w6) := Lib.hid (fun w6 hb => by
              have := (HM.out.below hb hw23).look_ok (T := 123) (Maps.string_keyed Tryd.underlying9) Tryd.underlying123 bytes_zero HKEY.out (by trivial)
              rw [hfv] at this; exact this)
            have HHH := Lib.hid hh
            have HVB := Lib.hid hv
            clear hh hfv hv
            by_cases hs : (b.length : Int) = x.size
            · have n1 : ((b.length : Int) == x.size) = true := by rw [hs]; exact beq_self_eq_true _
              have n2 : ((b.length : Int) != x.size) = false := by rw [bne, n1]; rfl
              have HS := Lib.hid hs
              clear hs
              go_wp2_with (first
                | (at_mapUpdate; refine vmap_update rfl _ _ _ 124 rfl HM5.out (Maps.string_keyed Tryd.underlying9) Tryd.underlying124 (by unfold maxLen; omega) (.string x.path) (.bool true) rfl rfl rfl HKEY.out (by trivial) ?_; intro w6 HM6 HG6; obtain ⟨hk6, ho6, hb6⟩ := HST.out w6 HG6.out; have j0 := hk6.cell 0; have j1 := hk6.cell 1; have j2 := hk6.cell 2; simp only [List.getElem?_cons_zero, List.getElem?_cons_succ] at j0 j1 j2; have hlk := HLK.out w6 hb6; have HK6 := Lib.hid hk6; have HO6 := Lib.hid ho6; have HB6 := Lib.hid hb6; have hs6 := hb6.size; clear hk6 ho6 hb6))
              refine wp_region_held_drew (S := fun w' => w'.cell? ⟨wr.heap.size, 2, none⟩ = some (.string (bstr x.digest))) (by kernel_rfl) j2 (fun hHeld => ?_)
              obtain ⟨wd, hwd⟩ : ∃ wd, wd = w6.drew := ⟨_, rfl⟩
              have HBD : Hid (Below w6.heap.size w6 wd) := Lib.hid (by rw [hwd]; exact (Below.refl w6.heap.size w6).drew)
              rw [← hwd] at hHeld ⊢
              clear hwd
              have HVD := Lib.hid (Rp.ext _ HVB.out ((HB3.out.trans (HB6.out.mono hw3)).trans (HBD.out.mono (by omega))))
              refine wpAnyH_take (i := 0) (v := ?_) rfl (by kernel_rfl) (by kernel_rfl) (by kernel_rfl) (fun _ _ _ h => h) (Or.inl ⟨by rfl, ?_⟩) (by assumption) ?_
              rotate_left
              · (intro w hSw; (try dsimp only at hSw); go_simp; try with_reducible rfl)
              try simp only [List.getElem_toArray, List.getElem_cons_succ, List.getElem_cons_zero, Act.put, List.setIfInBounds_toArray, List.set_cons_zero, List.set_cons_succ]
              refine wpAnyH_take (i := 2) (v := ?_) rfl (by kernel_rfl) (by kernel_rfl) (by kernel_rfl) (fun _ _ _ h => h) (Or.inl ⟨by rfl, ?_⟩) (by assumption) ?_
              rotate_left
              · (intro w hSw; (try dsimp only at hSw); go_simp; try with_reducible rfl)
              try simp only [List.getElem_toArray, List.getElem_cons_succ, List.getElem_cons_zero, Act.put, List.setIfInBounds_toArray, List.set_cons_zero, List.set_cons_succ]
              refine wpAnyH_take (i := 3) (v := ?_) rfl (by kernel_rfl) (by kernel_rfl) (by kernel_rfl) (fun _ _ _ h => h) (Or.inl ⟨by rfl, ?_⟩) (by assumption) ?_
              rotate_left
              · (intro w hSw; (try dsimp only at hSw); go_simp; try with_reducible rfl)
              try simp only [List.getElem_toArray, List.getElem_cons_succ, List.getElem_cons_zero, Act.put, List.setIfInBounds_toArray, List.set_cons_zero, List.set_cons_succ]
              refine wpAnyH_ready (rs := [1]) (by kernel_rfl) (by simp) ?_
              refine AllReadyH.cons rfl (fun K hK => ?_) AllReadyH.nil
              rw [if_pos (by rfl)]
              simp only [List.getElem_toArray, List.getElem_cons_succ, List.getElem_cons_zero]
              go_simp
              go_at_call 67
              refine (digest_any _ _ _ _ HVD.out).mono ?_
              rintro e w8 ⟨rfl, hb8⟩
              have hb8 := HBD.out.trans (hb8.mono HBD.out.size)
              obtain ⟨hm8, ho8, hb9, hk8⟩ := w_call HM6.out HO6.out HB6.out HK6.out hb8
              have j3 := hk8.cell 0
              have j4 := hk8.cell 2
              have HM8 := Lib.hid hm8
              have HO8 := Lib.hid ho8
              have HB8 := Lib.hid hb9
              have hs8 := hb9.size
              simp only [List.getElem?_cons_zero, List.getElem?_cons_succ] at j3 j4
              clear hb8 hm8 ho8 hb9 hk8 j0 j1 j2 hlk
              show K _ w8
              refine hK.out _ _ j4 (fun hHeld => ?_)
              clear hK K
              try simp only [List.getElem_toArray, List.getElem_cons_succ, List.getElem_cons_zero, Act.put, List.setIfInBounds_toArray, List.set_cons_zero, List.set_cons_succ]
              refine wpAnyH_take (i := 4) (v := ?_) rfl (by kernel_rfl) (by kernel_rfl) (by kernel_rfl) (fun _ _ _ h => h) (Or.inl ⟨by rfl, ?_⟩) (by assumption) ?_
              rotate_left
              · (intro w hSw; (try dsimp only at hSw); go_simp; try with_reducible rfl)
              try simp only [List.getElem_toArray, List.getElem_cons_succ, List.getElem_cons_zero, Act.put, List.setIfInBounds_toArray, List.set_cons_zero, List.set_cons_succ]
              refine wpAnyH_take (i := 5) (v := ?_) rfl (by kernel_rfl) (by kernel_rfl) (by kernel_rfl) (fun _ _ _ h => h) (Or.inl ⟨by rfl, ?_⟩) (by assumption) ?_
              rotate_left
              · (intro w hSw; (try dsimp only at hSw); go_simp; try with_reducible rfl)
              try simp only [List.getElem_toArray, List.getElem_cons_succ, List.getElem_cons_zero, Act.put, List.setIfInBounds_toArray, List.set_cons_zero, List.set_cons_succ]
              refine wpAnyH_done (by kernel_rfl) ?_ _
              clear hHeld
              by_cases hd : digL b = x.digest
              · have m1 : ((bstr (hexL (fnv b) 16)).toList == (bstr x.digest).toList) = true := str_beq (congrArg bstr hd)
                rw [m1, Bool.not_true]
                have HD := Lib.hid hd
                clear hd
                go_wp2_with fail
                go_roundw
                case rel => exact ⟨k + 1, _, by omega, by go_num, HM8.out, HGP.out, by rw [HTF.out, defOf_ok HHH.out HS.out HD.out, List.append_nil]; exact HO8.out, HB8.out⟩
                case measure => simp [intOf]; omega
              · have m1 : ((bstr (hexL (fnv b) 16)).toList == (bstr x.digest).toList) = false := str_bne (fun e => hd (bstr_inj e))
                rw [m1, Bool.not_false]
                have HD := Lib.hid hd
                clear hd
                go_wp2_with (first
                  | (at_builtin; refine app_new rfl (.tmp 87) (.tmp 91) 61 rfl 66 _ 2 24 Tryd.underlying61 def_info rfl (by decide) (defCells ⟨x.path, 4⟩) HO8.out (by omega) rfl rfl rfl (by decide) (by simp [defCells, Value.oneCell']) (by unfold maxLen; omega) (by omega) ?_; intro g1 cc1 w7 HO7 HG7 HB7 HL7))
                go_roundw
                case rel => exact ⟨k + 1, _, by omega, by go_num, HM8.out.grown HG7.out (HM8.out.notRow HO8.out), HGP.out, by rw [HTF.out, defOf_dig HHH.out HS.out HD.out]; exact row_push HO7.out, HB7.out _ HB8.out⟩
                case measure => simp [intOf]; omega
            · have n1 : ((b.length : Int) == x.size) = false := by rw [beq_eq_false_iff_ne]; exact hs
              have n2 : ((b.length : Int) != x.size) = true := by rw [bne, n1]; rfl
              have HS := Lib.hid hs
              clear hs
              go_wp2_with (first
                | (at_mapUpdate; refine vmap_update rfl _ _ _ 124 rfl HM5.out (Maps.string_keyed Tryd.underlying9) Tryd.underlying124 (by unfold maxLen; omega) (.string x.path) (.bool true) rfl rfl rfl HKEY.out (by trivial) ?_; intro w6 HM6 HG6; obtain ⟨hk6, ho6, hb6⟩ := HST.out w6 HG6.out; have j0 := hk6.cell 0; have j1 := hk6.cell 1; have j2 := hk6.cell 2; simp only [List.getElem?_cons_zero, List.getElem?_cons_succ] at j0 j1 j2; have hlk := HLK.out w6 hb6; have HK6 := Lib.hid hk6; have HO6 := Lib.hid ho6; have HB6 := Lib.hid hb6; have hs6 := hb6.size; clear hk6 ho6 hb6)
                | (at_builtin; refine app_new rfl (.tmp 75) (.tmp 79) 61 rfl 66 _ 2 24 Tryd.underlying61 def_info rfl (by decide) (defCells ⟨x.path, 3⟩) HO6.out (by omega) rfl rfl rfl (by decide) (by simp [defCells, Value.oneCell']) (by unfold maxLen; omega) (by omega) ?_; intro g1 cc1 w7 HO7 HG7 HB7 HL7))
              go_roundw
              case rel => exact ⟨k + 1, _, by omega, by go_num, HM6.out.grown HG7.out (HM6.out.notRow HO6.out), HGP.out, by rw [HTF.out, defOf_size HHH.out HS.out]; exact row_push HO7.out, HB7.out _ HB6.out⟩
              case measure => simp [intOf]; omega
        · obtain rfl : k = E.length := by omega
          rw [List.take_length] at HG HO
          have hle := flatMap_le1 (defOf F) (defOf_len F) E
          go_wp2_with fail
          rename World => w4
          go_loopw [12, 96] (fun vo vi wr => ∃ k : Nat, k ≤ F.length ∧ vi = .int .i64 k ∧ Hid (VMap Tryd.prog 9 (.bool false) wr w3.heap.size E.length g) ∧
            Hid (wr.ownsRow w3.heap.size 66 2 vo (E.flatMap (defOf F) ++ (F.take k).flatMap (newOf E)).length ((E.flatMap (defOf F) ++ (F.take k).flatMap (newOf E)).flatMap defCells)) ∧ Hid (Below w3.heap.size w3 wr)) (fun _ vi _ => F.length - (intOf vi).toNat)
          case atStart => exact ⟨0, by omega, rfl, HGM, by rw [List.take_zero, List.flatMap_nil, List.append_nil]; exact HO.out, HB⟩
          case round =>
            clear HGM HO HB
            obtain ⟨k, hk, rfl, HGM, HO, HB⟩ := hrel
            by_cases hlt : k < F.length
            · have HTF : Hid (E.flatMap (defOf F) ++ (F.take (k + 1)).flatMap (newOf E) = (E.flatMap (defOf F) ++ (F.take k).flatMap (newOf E)) ++ newOf E F[k]) := Lib.hid (by rw [take_flat (newOf E) F k hlt, List.append_assoc])
              have hle3 := flatMap_le1 (newOf E) (newOf_len E) (F.take k)
              rw [List.length_take] at hle3
              have hle4 : (E.flatMap (defOf F) ++ (F.take k).flatMap (newOf E)).length ≤ 1000 := by rw [List.length_append]; omega
              generalize E.flatMap (defOf F) ++ (F.take k).flatMap (newOf E) = L at HO HTF hle4 ⊢
              obtain ⟨AO, cO, rfl, hcO, hcO2, hgO⟩ := own_form HO.out
              obtain ⟨ad, c2, v2, e1, hadb, c0, c1, hz1, hv2⟩ := file_at H1.out hlt
              injection e1 with e1 _ e3
              subst e1 e3
              obtain ⟨A1, cb, rfl, hcb, hcbm, _⟩ := Rp.sl_open hv2
              have hw3 : w.heap.size ≤ w3.heap.size := by omega
              have hwb := HB3.out.trans (HB.out.mono hw3)
              have d0 := (hwb.cell (World.block_lt_of_cell? w _ c0)).trans c0
              have d1 := (hwb.cell (World.block_lt_of_cell? w _ c1)).trans c1
              clear hadb hv2 hwb c0 c1
              generalize F[k] = x at *
              have HAL := Lib.hid (w_alloc HO.out HB.out (.cells #[.string (bstr x.path), .slice A1 x.bytes.length cb] 116))
              have hs5 := HAL.out.2.size
              have HM5 := Lib.hid (HGM.out.below ((Below.refl wr.heap.size wr).alloc (Nat.le_refl _) (.cells #[.string (bstr x.path), .slice A1 x.bytes.length cb] 116)) HGM.out.lt)
              have hkb := Blk.new wr 116 [.string (bstr x.path), .slice A1 x.bytes.length cb]
              have k0 : _ = some (Value.string (bstr x.path)) := hkb.cell 0
              have HKEY := Lib.hid (keyS x.path hz1)
              have hwlt := HGM.out.lt
              have hlk := HM5.out.look (T := 124) (Maps.string_keyed Tryd.underlying9) Tryd.underlying124 bool_zero HKEY.out (by trivial)
              rw [HG.out x.path] at hlk
              clear hkb HB HO HGM
              by_cases hm : x.path ∈ E.map (·.path)
              · rw [decide_eq_true hm] at hlk
                have HN : Hid (newOf E x = []) := Lib.hid (if_pos hm)
                clear hm
                go_wp2_with fail
                go_roundw
                case rel => exact ⟨k + 1, by omega, by go_num, HM5, by rw [HTF.out, HN.out, List.append_nil]; exact HAL.out.1, HAL.out.2⟩
                case measure => simp [intOf]; omega
              · rw [decide_eq_false hm] at hlk
                have HN : Hid (newOf E x = [⟨x.path, 2⟩]) := Lib.hid (if_neg hm)
                clear hm
                go_wp2_with (first
                  | (at_builtin; refine app_new rfl (.tmp 105) (.tmp 109) 61 rfl 66 _ 2 24 Tryd.underlying61 def_info rfl (by decide) (defCells ⟨x.path, 2⟩) HAL.out.1 (by omega) rfl (by rw [World.size_alloc]; rfl) rfl (by decide) (by simp [defCells, Value.oneCell']) (by unfold maxLen; omega) (by omega) ?_; intro g1 cc1 w7 HO7 HG7 HB7 HL7))
                go_roundw
                case rel => exact ⟨k + 1, by omega, by go_num, HM5.out.grown HG7.out (HM5.out.notRow HAL.out.1), by rw [HTF.out, HN.out]; exact row_push HO7.out, HB7.out _ HAL.out.2⟩
                case measure => simp [intOf]; omega
            · obtain rfl : k = F.length := by omega
              rw [List.take_length] at HO
              have hle3 := flatMap_le1 (newOf E) (newOf_len E) F
              have hle4 : (wrongL E F).length ≤ 1000 := by rw [wrongL, List.length_append]; omega
              change Hid (wr.ownsRow w3.heap.size 66 2 _ (wrongL E F).length ((wrongL E F).flatMap defCells)) at HO
              have HBW := Lib.hid (HB3.out.trans (HB.out.mono (Nat.le_of_lt (Nat.lt_trans hlw2 hw23))))
              have HWO := Lib.hid (wrongL_ok H0.out H1.out)
              go_wp2_with fail
              refine (sortD_any _ _ _ _ HO.out hle4 HWO.out).mono ?_
              rintro e w9 ⟨rfl, out, hpm, hsort, hrow, hb9⟩
              have HP : Hid (WrongPost n E F w (.returned (.tuple #[_, .int .i64 0])) w9) := Lib.hid ⟨_, out, by rw [HWF.out], hrow, HBW.out.trans (hb9.mono (Nat.le_of_lt (Nat.lt_trans hlw2 hw23))), fun _ => ⟨hpm, hsort⟩, fun h => absurd HWF.out h⟩
              clear hpm hsort hrow hb9
              go_wp2_with fail
              go_ret2
              exact HP.out
end Go.Proofs.YtbafnemcdhdagaaDoor
