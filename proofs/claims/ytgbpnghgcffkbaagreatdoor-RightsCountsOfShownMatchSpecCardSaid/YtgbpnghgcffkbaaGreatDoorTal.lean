/-
  Tallies: how they read; slices.Equal of them; a map of counts.
-/
import Derived.Test.YtgbpnghgcffkbaaGreatDoorMostP
import Derived.Test.YtgbpnghgcffkbaaGreatDoorVMap
import Derived.Test.YtgbpnghgcffkbaaGreatDoorChkRights
import Derived.Maps.RangeWalk
import Derived.Sort.KeysCollected
import Derived.Deep.QuietTactic
import Derived.BigQuiet
namespace Go.Proofs.YtgbpnghgcffkbaaGreatDoor
open Go.RowKit
set_option linter.unusedVariables false
set_option linter.unusedSimpArgs false

def talCells (p : Tal) : List Value := [.string (bstr p.1), .int .i64 p.2]
def talRp : Rp Tal := (Rp.pair Rp.str (Rp.int .i64)).via fun r => (bstr r.1, r.2)
def TalSz (p : Tal) : Prop := p.1.length ≤ maxLen ∧ (Lit.int .i64 p.2).wf = true
theorem tal_open {w : World} {S : Nat → Prop} {us : List Value} {c : Tal} (h : talRp.ok w S us c) : us = talCells c ∧ TalSz c := by
  obtain ⟨_, _, rfl, ⟨rfl, h1⟩, ⟨rfl, h2⟩⟩ := h
  exact ⟨rfl, h1, h2⟩
theorem tal_mk {w : World} {S : Nat → Prop} {c : Tal} (h : TalSz c) : talRp.ok w S (talCells c) c := ⟨[_], [_], rfl, ⟨rfl, h.1⟩, ⟨rfl, h.2⟩⟩
theorem tals_read {w : World} {B : Nat} {v : Value} {l : List Tal} {n : Nat} (h : w.ownsRow B 51 2 v n (l.flatMap talCells)) (hl : ∀ s ∈ l, TalSz s) : (Rp.sl talRp).ok w (· < w.heap.size) [v] l :=
  Rp.of_ownN (R := talRp) (by decide) (fun _ => rfl) h (fun g hg => (h.lt g hg).2) (fun s hs => tal_mk (hl s hs))
theorem tal_at {w : World} {S : Nat → Prop} {v : Value} {l : List Tal} (h : (Rp.sl talRp).ok w S [v] l) {k : Nat} (hk : k < l.length) :
    ∃ ad c, v = .slice (some ad) l.length c ∧ S ad.block ∧ w.cell? (ad.add (k * 2)) = some (.string (bstr l[k].1)) ∧ w.cell? ⟨(ad.add (k * 2)).block, (ad.add (k * 2)).off + 1, none⟩ = some (.int .i64 l[k].2) := by
  obtain ⟨A, c, rfl, _⟩ := Rp.sl_open h
  obtain ⟨ad, us, rfl, _, hb, hu, hcell⟩ := Rp.sl_at h hk
  obtain ⟨rfl, hz⟩ := tal_open hu
  have c0 := hcell 0 _ rfl
  have c1 := hcell 1 _ rfl
  rw [add_fld _ _ _ (by omega)] at c1
  exact ⟨ad, c, rfl, hb, c0, c1⟩
theorem talInfo : (Tryz.prog.info? 51).map (fun i => (i.zero, i.size, i.bytes)) = some (some (.agg #[.string ⟨#[]⟩, .int .i64 0]), 2, 24) := by kernel_rfl
set_option maxRecDepth 100000 in
set_option maxHeartbeats 2000000 in
theorem eqTal_is (v1 v2 : Value) (l : List Tal) (w : World) (S T : Nat → Prop) (h1 : (Rp.sl talRp).ok w S [v1] l) (h2 : (Rp.sl talRp).ok w T [v2] l) :
    Calls Tryz.prog 20 #[v1, v2] w fun e w' => e = .returned (.bool true) ∧ ∃ n, w' = w.drewN n := by
  obtain ⟨A, c, rfl, hl1, hc1, _⟩ := Rp.sl_open h1
  obtain ⟨B, d, rfl, hl2, hc2, _⟩ := Rp.sl_open h2
  unfold maxLen at hc1 hc2
  have H1 := Lib.hid h1
  have H2 := Lib.hid h2
  clear h1 h2
  go_enter Tryz.func20, Tryz.ntmps20
  go_wp2
  go_loopw [13] (fun i wr => ∃ k n : Nat, k ≤ l.length ∧ i = .int .i64 k ∧ wr = w.drewN n) (fun i _ => l.length - (intOf i).toNat)
  case atStart => exact ⟨0, 0, Nat.zero_le _, rfl, rfl⟩
  case round =>
    obtain ⟨k, n, hk, rfl, rfl⟩ := hrel
    by_cases hlt : k < l.length
    · obtain ⟨ad1, c', e1, _, c0, c1⟩ := tal_at H1.out hlt
      cases e1
      obtain ⟨ad2, c', e1, _, d0, d1⟩ := tal_at H2.out hlt
      cases e1
      generalize l[k] = x at *
      have b0 : ((bstr x.1).toList == (bstr x.1).toList) = true := beq_self_eq_true _
      have b1 : (x.2 == x.2) = true := beq_self_eq_true _
      have hm0 : (0 : Int) ≤ (k : Int) := by omega
      have hmL : (k : Int) < (l.length : Int) := by omega
      go_wp2
      go_quiet (fail)
      go_wp2
      go_roundw
      case rel => exact ⟨k + 1, _, by omega, by go_num, rfl⟩
      case measure => simp [intOf]; omega
    · obtain rfl : k = l.length := by omega
      go_wp2
      go_ret
      exact ⟨rfl, _, rfl⟩
/-! ### A map of counts -/
def TalF (ks : List (List UInt8)) (f : Lit → Option Value) : Prop := ∀ k, f (.string k) = if ks.count k = 0 then none else some (.int .i64 (ks.count k : Int))
theorem talF_nil : TalF [] (fun _ => none) := fun k => by simp
theorem talF_get {ks : List (List UInt8)} {f : Lit → Option Value} (h : TalF ks f) (k : List UInt8) : (f (.string k)).getD (.int .i64 0) = .int .i64 (ks.count k : Int) := by
  rw [h k]
  split
  · rename_i e; rw [e]; rfl
  · rfl
theorem talF_put {ks : List (List UInt8)} {f : Lit → Option Value} (h : TalF ks f) (k : List UInt8) : TalF (ks ++ [k]) (fun y => if y.sameKey (.string k) then some (.int .i64 ((ks.count k : Int) + 1)) else f y) := by
  intro x
  by_cases e : x = k
  · subst e
    dsimp only
    rw [if_pos (WideAt.sameKey_self (by trivial)), List.count_append, List.count_singleton_self, if_neg (by omega)]
    simp
  · dsimp only
    rw [if_neg (by rw [Maps.sameKey_ne (fun e2 => e (by injection e2))]; simp), h x, List.count_append, List.count_singleton, show (k == x) = false from by simpa using Ne.symm e]
    simp
/-- What has been collected: 'left' is still to come. -/
structure Coll (ks : List (List UInt8)) (left : Lit → Bool) (ts : List Tal) : Prop where
  nd : ts.Nodup
  mem : ∀ p, p ∈ ts ↔ p.1 ∈ ks ∧ p.2 = (ks.count p.1 : Int) ∧ left (.string p.1) = false
  inn : ∀ k, left (.string k) = true → k ∈ ks
theorem coll_start {ks : List (List UInt8)} {D : DataW Value} {f : Lit → Option Value} (h : TalF ks f) (hD : ∀ k, WideAt.IsKeyLit k → Maps.has D k = (f k).isSome ∧ D.atKey k (.held (.int .i64 0)) = .held ((f k).getD (.int .i64 0))) : Coll ks (Maps.has D) [] := by
  have key : ∀ k, Maps.has D (.string k) = true ↔ k ∈ ks := fun k => by
    rw [(hD _ (by trivial)).1, h k]
    split
    · rename_i e
      rw [List.count_eq_zero] at e
      simp [e]
    · rename_i e
      rw [List.count_eq_zero] at e
      simpa using e
  refine ⟨List.nodup_nil, fun p => ⟨fun e => (by cases e), fun ⟨h1, _, h3⟩ => ?_⟩, fun k hk => (key k).1 hk⟩
  rw [(key p.1).2 h1] at h3
  cases h3
theorem coll_step {ks : List (List UInt8)} {left : Lit → Bool} {ts : List Tal} (h : Coll ks left ts) {x : List UInt8} (hl : left (.string x) = true) : Coll ks (fun z => left z && !z.sameKey (.string x)) (ts ++ [(x, (ks.count x : Int))]) := by
  have hx : (x, (ks.count x : Int)) ∉ ts := fun e => by
    have := ((h.mem _).1 e).2.2
    rw [hl] at this
    cases this
  refine ⟨List.nodup_append.2 ⟨h.nd, by simp, fun a ha b hb e => hx (by rw [List.mem_singleton] at hb; rw [← hb, ← e]; exact ha)⟩, fun p => ?_, fun k hk => ?_⟩
  · rw [List.mem_append, List.mem_singleton, h.mem]
    constructor
    · rintro (⟨h1, h2, h3⟩ | e)
      · exact ⟨h1, h2, by rw [h3]; rfl⟩
      · subst e
        exact ⟨h.inn x hl, rfl, by rw [WideAt.sameKey_self (by trivial)]; simp⟩
    · rintro ⟨h1, h2, h3⟩
      by_cases e : p.1 = x
      · exact .inr (Prod.ext e (by rw [h2, e]))
      · rw [Maps.sameKey_ne (fun e2 => e (by injection e2))] at h3
        exact .inl ⟨h1, h2, by simpa using h3⟩
  · rw [Bool.and_eq_true] at hk
    exact h.inn k hk.1
theorem coll_val {ks : List (List UInt8)} {left : Lit → Bool} {ts : List Tal} {D : DataW Value} {f : Lit → Option Value} {x : List UInt8} {c : Value} (h : TalF ks f) (hD : ∀ k, WideAt.IsKeyLit k → Maps.has D k = (f k).isSome ∧ D.atKey k (.held (.int .i64 0)) = .held ((f k).getD (.int .i64 0))) (hc : Coll ks left ts) (hat : ∀ zd, D.atKey (.string x) zd = .held c) : c = .int .i64 (ks.count x : Int) := by
  have := hat (.held (.int .i64 0))
  rw [(hD _ (by trivial)).2, talF_get h] at this
  injection this with this
  exact this.symm
theorem coll_end {ks : List (List UInt8)} {left : Lit → Bool} {ts : List Tal} (h : Coll ks left ts) (h0 : ∀ k, left k = false) : ∀ p, p ∈ ts ↔ p.1 ∈ ks ∧ p.2 = (ks.count p.1 : Int) := fun p => by
  rw [h.mem]
  exact ⟨fun e => ⟨e.1, e.2.1⟩, fun e => ⟨e.1, e.2, h0 _⟩⟩
theorem ranges_notRow {H : Type} {w : World} {P : Program} {K : TypeId} {R : Value → Option (DataW H × List MemPlace)} {b r n : Nat} {D : DataW H} {left : Lit → Bool} {cnt B : Nat} {e : TypeId} {size k : Nat} {v : Value} {xs : List Value} (h : w.ranges P K R b r n D left cnt) (hr : w.ownsRow B e size v k xs) : some b ≠ v.ownBlock ∧ some r ≠ v.ownBlock := by
  obtain ⟨es, clock, since, seen, c0, hb, _, _, _, hit, _⟩ := h
  rcases hr.2 with ⟨rfl, _⟩ | ⟨g', cap, cur, rfl, _, hgb, _⟩
  · simp [Value.ownBlock]
  · constructor
    · intro e'
      obtain rfl : b = g' := by simpa [Value.ownBlock] using e'
      have := hb.symm.trans hgb
      simp at this
    · intro e'
      obtain rfl : r = g' := by simpa [Value.ownBlock] using e'
      have := hit.symm.trans hgb
      simp at this
end Go.Proofs.YtgbpnghgcffkbaaGreatDoor
