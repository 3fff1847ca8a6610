/-
  What an argument that can be read as data gives to the walk: its reading as a Lean value ('Rp'), and that nothing in it is longer than the form's own reach. Over any program.
-/
import Derived.Test.YtnkdcmibafjplaaGreatDoorBase
namespace Go.Proofs.YtnkdcmibafjplaaGreatDoor
open Go.RowKit Go.ChangeShapes Go.WideShapes Go.ChangeAt

def Opens (P : Program) (t : TypeId) {α : Type} (R : Rp α) : Prop :=
  ∀ (H : Type) (enc : TypeId × Value → H) (w : World) (fuel : Nat) (cs : List Value) (x : DataW H × List MemPlace), DataW.trod enc P w 0 (fun _ => true) true fuel t cs = some x →
    ∃ a, R.ok w (· < w.heap.size) cs a ∧ ((∀ n ∈ DataW.weights P t x.1, n ≤ reachBytes) → R.fits a)

theorem reach_le : reachBytes ≤ 140737488351232 := by decide

section
variable {P : Program} {t : TypeId}
theorem opens_int {k : IntKind} (ht : P.underlying t = some (.int k)) : Opens P t (Rp.int k) := by
  intro H enc w fuel cs x h
  obtain ⟨n, rfl, rfl, hw⟩ := DataW.trod_int ht h
  exact ⟨n, ⟨rfl, hw⟩, fun _ => trivial⟩
theorem opens_u8 (ht : P.underlying t = some (.int .u8)) : Opens P t Rp.u8 := by
  intro H enc w fuel cs x h
  obtain ⟨n, rfl, rfl, hw⟩ := DataW.trod_int ht h
  have hn : 0 ≤ n ∧ n ≤ 255 := by simpa [Lit.wf, IntKind.min, IntKind.max, IntKind.signed, IntKind.bits] using hw
  refine ⟨UInt8.ofNat n.toNat, ?_, fun _ => trivial⟩
  show [Value.int .u8 n] = [Value.int .u8 _]
  have : ((UInt8.ofNat n.toNat).toNat : Int) = n := by
    rw [UInt8.toNat_ofNat']
    omega
  rw [this]
theorem opens_bool (ht : P.underlying t = some .bool) : Opens P t Rp.bool := by
  intro H enc w fuel cs x h
  obtain ⟨b, rfl, rfl⟩ := DataW.trod_bool ht h
  exact ⟨b, rfl, fun _ => trivial⟩
theorem opens_str (ht : P.underlying t = some .string) : Opens P t Rp.str := by
  intro H enc w fuel cs x h
  obtain ⟨s, rfl, rfl, hs⟩ := DataW.trod_string ht h
  refine ⟨s, ⟨rfl, hs⟩, fun hf => ?_⟩
  exact Nat.le_trans (hf s.data.toList.length (List.mem_singleton.2 rfl)) reach_le

theorem weightsAll_mem {H : Type} {P : Program} {e : TypeId} {n : Nat} {d : DataW H} : ∀ {l : List (DataW H)}, d ∈ l → n ∈ DataW.weights P e d → n ∈ DataW.weightsAll P e l
  | y :: l, hd, hn => by
    rw [DataW.weightsAll, List.mem_append]
    rcases List.mem_cons.1 hd with rfl | hd
    · exact .inl hn
    · exact .inr (weightsAll_mem hd hn)

theorem opens_sl {e : TypeId} {α : Type} {R : Rp α} (ht : P.underlying t = some (.slice e)) (hc : P.cellsOf e = R.sz) (hsz : 0 < R.sz) (hb : 1 ≤ P.bytesOf e) (ho : Opens P e R) : Opens P t (Rp.sl R) := by
  intro H enc w fuel cs x h
  rcases DataW.trod_slice ht h with ⟨rfl, rfl⟩ | ⟨a, len, cap, elems, rest, n, _, rfl, rfl, _, hl, hm, hlen, hel, _, _⟩
  · exact ⟨[], Rp.sl_nil _ _ _, fun _ => ⟨by simp, fun a ha => by cases ha⟩⟩
  · have key : ∀ i : Fin len, ∃ b : α, a.block < w.heap.size ∧ (∃ us, R.ok w (· < w.heap.size) us b ∧ (∀ j u, us[j]? = some u → w.cell? (a.add (i.1 * R.sz + j)) = some u)) ∧
        ∃ d ∈ elems.map (·.1), (∀ n ∈ DataW.weights P e d, n ≤ reachBytes) → R.fits b := by
      intro ⟨i, hi⟩
      have h1 := hel i hi
      rw [List.getElem?_eq_getElem (by omega), Option.bind_eq_some_iff] at h1
      obtain ⟨us, h2, h3⟩ := h1
      obtain ⟨b, hok, hfit⟩ := ho H enc w n us _ h3
      obtain ⟨_, hul, hcell⟩ := World.cells?_some h2
      rw [hc] at hul hcell
      have hc' : ∀ j u, us[j]? = some u → w.cell? (a.add (i * R.sz + j)) = some u := by
        intro j u hj
        have hjl : j < R.sz := by rw [← hul]; exact (List.getElem?_eq_some_iff.1 hj).1
        rw [← hj, ← hcell j hjl, add_add]
      have h0 := hc' 0 (us[0]'(by omega)) (List.getElem?_eq_getElem _)
      have hblk := World.block_lt_of_cell? w _ h0
      rw [add_block] at hblk
      exact ⟨b, hblk, ⟨us, hok, hc'⟩, _, List.mem_map.2 ⟨_, List.getElem_mem (by omega), rfl⟩, hfit⟩
    obtain ⟨f, hf⟩ := Classical.axiomOfChoice key
    refine ⟨List.ofFn f, ⟨some a, cap, by rw [List.length_ofFn], by rw [List.length_ofFn]; exact hl, hm, by simp, fun k hk => ?_⟩, fun hw => ⟨?_, fun b hb' => ?_⟩⟩
    · rw [List.length_ofFn] at hk
      obtain ⟨h1, ⟨us, h2, h3⟩, _⟩ := hf ⟨k, hk⟩
      exact ⟨a, us, rfl, h1, by rw [List.getElem_ofFn]; exact h2, h3⟩
    · have := hw (((elems.map (·.1)).length + (rest.map (·.1)).length) * P.bytesOf e) (by simp only [DataW.weights, ht]; exact List.mem_cons_self ..)
      rw [List.length_ofFn]
      have h1 : len ≤ ((elems.map (·.1)).length + (rest.map (·.1)).length) * P.bytesOf e := by
        refine Nat.le_trans ?_ (Nat.le_mul_of_pos_right _ hb)
        simp only [List.length_map]; omega
      exact Nat.le_trans (Nat.le_trans h1 this) reach_le
    · rw [List.mem_ofFn] at hb'
      obtain ⟨i, rfl⟩ := hb'
      obtain ⟨_, _, d, hd, hfit⟩ := hf i
      refine hfit fun n hn => hw n ?_
      simp only [DataW.weights, ht]
      exact List.mem_cons_of_mem _ (List.mem_append_left _ (weightsAll_mem hd hn))

/-- The fields of a struct from place 'base' on. -/
def OpensF (P : Program) (fs : List Field) (base : Nat) {α : Type} (R : Rp α) : Prop :=
  ∀ (H : Type) (enc : TypeId × Value → H) (w : World) (n : Nat) (cs : List Value) (xs : List (DataW H × List MemPlace)), cs.length = base + R.sz → xs.length = fs.length →
    (∀ (i : Nat) (f : Field), fs[i]? = some f → DataW.trod enc P w 0 (fun _ => true) true n f.type ((cs.drop f.offset).take (P.cellsOf f.type)) = xs[i]?) →
    ∃ a, R.ok w (· < w.heap.size) (cs.drop base) a ∧ ((∀ n ∈ DataW.weightsEach P (fs.map (·.type)) (xs.map (·.1)), n ≤ reachBytes) → R.fits a)

theorem opensF_one {f : Field} {base : Nat} {α : Type} {R : Rp α} (hoff : f.offset = base) (hc : P.cellsOf f.type = R.sz) (ho : Opens P f.type R) : OpensF P [f] base R := by
  intro H enc w n cs xs hl hx hh
  obtain ⟨x, rfl⟩ := List.length_eq_one_iff.1 hx
  have h := hh 0 f rfl
  rw [hoff, hc, List.take_of_length_le (by rw [List.length_drop]; omega)] at h
  obtain ⟨a, h1, h2⟩ := ho H enc w n _ x h
  exact ⟨a, h1, fun hw => h2 fun n hn => hw n (by simp only [List.map_cons, List.map_nil, DataW.weightsEach, List.append_nil]; exact hn)⟩
theorem opensF_cons {f : Field} {fs : List Field} {base : Nat} {α β : Type} {R : Rp α} {T : Rp β} (hoff : f.offset = base) (hc : P.cellsOf f.type = R.sz) (ho : Opens P f.type R) (hr : OpensF P fs (base + R.sz) T) :
    OpensF P (f :: fs) base (Rp.pair R T) := by
  intro H enc w n cs xs hl hx hh
  match xs, hx with
  | x :: xs, hx =>
    have hl' : cs.length = base + (R.sz + T.sz) := hl
    have h := hh 0 f rfl
    rw [hoff, hc] at h
    obtain ⟨a, h1, h2⟩ := ho H enc w n _ x h
    obtain ⟨b, h3, h4⟩ := hr H enc w n cs xs (by omega) (by simpa using hx) (fun i f hf => hh (i + 1) f hf)
    refine ⟨(a, b), ⟨_, _, ?_, h1, h3⟩, fun hw => ⟨h2 fun n hn => hw n ?_, h4 fun n hn => hw n ?_⟩⟩
    · rw [← List.drop_drop, List.take_append_drop]
    · simp only [List.map_cons, DataW.weightsEach, List.mem_append]; exact .inl hn
    · simp only [List.map_cons, DataW.weightsEach, List.mem_append]; exact .inr hn
theorem opens_struct {fs : Array Field} {α : Type} {R : Rp α} (ht : P.underlying t = some (.struct fs)) (hc : P.cellsOf t = R.sz) (ho : OpensF P fs.toList 0 R) : Opens P t R := by
  intro H enc w fuel cs x h
  obtain ⟨xs, n, _, rfl, hl, hx, hh⟩ := DataW.trod_struct ht h
  obtain ⟨a, h1, h2⟩ := ho H enc w n cs xs (by rw [hl, hc]; omega) (by rw [hx, Array.length_toList]) (fun i f hf => hh i f (by simpa using hf))
  exact ⟨a, by simpa using h1, fun hw => h2 fun n hn => hw n (by simp only [DataW.weights, ht]; exact hn)⟩
theorem opens_via {α β : Type} {R : Rp α} (f : β → α) (g : α → β) (hfg : ∀ a, f (g a) = a) (ho : Opens P t R) : Opens P t (R.via f) := by
  intro H enc w fuel cs x h
  obtain ⟨a, h1, h2⟩ := ho H enc w fuel cs x h
  exact ⟨g a, by show R.ok w _ cs (f (g a)); rw [hfg]; exact h1, fun hw => by show R.fits (f (g a)); rw [hfg]; exact h2 hw⟩
end
end Go.Proofs.YtnkdcmibafjplaaGreatDoor
