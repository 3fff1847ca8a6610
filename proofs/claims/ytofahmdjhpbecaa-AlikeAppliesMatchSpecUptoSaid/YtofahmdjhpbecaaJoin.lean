/-
  'strings.Join' with nothing between: the library's contract at this program.
-/
import Derived.Test.YtofahmdjhpbecaaProg
import Derived.Test.YtofahmdjhpbecaaAppPlain
import Derived.Shelf.Strings.OnBuilder
namespace Go.Proofs.Ytofahmdjhpbecaa
open Go.RowKit
set_option linter.unusedVariables false
set_option linter.unusedSimpArgs false

def joinLays_ren : Go.Shelf.Ren := ⟨fun | 156 => 100 | 165 => 105 | 166 => 106 | 169 => 107 | 240 => 110 | 241 => 111 | 276 => 112 | 277 => 113 | n => n, fun | 0 => 0 | 3 => 3 | 4 => 4 | 5 => 5 | 9 => 9 | 20 => 20 | 31 => 53 | 37 => 22 | 70 => 132 | 72 => 134 | 75 => 137 | 76 => 138 | 80 => 140 | 127 => 142 | 164 => 143 | n => n, fun | n => n⟩
theorem joinLays : Lays.n156 Try.prog joinLays_ren := {
  mixed := by kernel_rfl,
  f156 := Try.func100.trans (congrArg some (by kernel_rfl)),
  f165 := Try.func105.trans (congrArg some (by kernel_rfl)),
  f166 := Try.func106.trans (congrArg some (by kernel_rfl)),
  f169 := Try.func107.trans (congrArg some (by kernel_rfl)),
  f240 := Try.func110.trans (congrArg some (by kernel_rfl)),
  f241 := Try.func111.trans (congrArg some (by kernel_rfl)),
  f276 := Try.func112.trans (congrArg some (by kernel_rfl)),
  f277 := Try.func113.trans (congrArg some (by kernel_rfl)),
  t0 := Try.underlying0,
  a0 := Try.isAgg0,
  z0 := Try.sizeOf0,
  v0 := Try.zeroValue0,
  t3 := Try.underlying3,
  a3 := Try.isAgg3,
  z3 := Try.sizeOf3,
  v3 := Try.zeroValue3,
  t4 := Try.underlying4,
  a4 := Try.isAgg4,
  z4 := Try.sizeOf4,
  v4 := Try.zeroValue4,
  t9 := Try.underlying9,
  a9 := Try.isAgg9,
  z9 := Try.sizeOf9,
  v9 := Try.zeroValue9,
  t20 := Try.underlying20,
  a20 := Try.isAgg20,
  z20 := Try.sizeOf20,
  v20 := Try.zeroValue20,
  t31 := Try.underlying53,
  a31 := Try.isAgg53,
  z31 := Try.sizeOf53,
  v31 := Try.zeroValue53,
  t37 := Try.underlying22,
  a37 := Try.isAgg22,
  z37 := Try.sizeOf22,
  v37 := Try.zeroValue22,
  t70 := Try.underlying132,
  a70 := Try.isAgg132,
  z70 := Try.sizeOf132,
  v70 := Try.zeroValue132,
  t72 := Try.underlying134,
  a72 := Try.isAgg134,
  z72 := Try.sizeOf134,
  v72 := Try.zeroValue134,
  t75 := Try.underlying137,
  a75 := Try.isAgg137,
  z75 := Try.sizeOf137,
  v75 := Try.zeroValue137,
  t76 := Try.underlying138,
  a76 := Try.isAgg138,
  z76 := Try.sizeOf138,
  v76 := Try.zeroValue138,
  t127 := Try.underlying142,
  a127 := Try.isAgg142,
  z127 := Try.sizeOf142,
  v127 := Try.zeroValue142,
  t164 := Try.underlying143,
  a164 := Try.isAgg143,
  z164 := Try.sizeOf143,
  v164 := Try.zeroValue143 }
theorem joinExtra : Builder.Extra Try.prog joinLays_ren := {
  sizeBuilder := by kernel_rfl,
  liesBuilder := by kernel_rfl,
  t5 := Try.underlying5,
  a5 := Try.isAgg5,
  z5 := Try.sizeOf5,
  v5 := Try.zeroValue5,
  infoByte := by kernel_rfl,
  cellsByte := by kernel_rfl,
  sizeByte := by kernel_rfl,
  neB5 := by decide }
theorem join_flat : ∀ ls : List (List UInt8), Lib.join ls [] = ls.flatten
  | [] => rfl
  | x :: r => by
    rw [Lib.join_cons, List.flatten_cons]
    congr 1
    induction r with
    | nil => rfl
    | cons y r ih => rw [Lib.joinTail, List.map_cons, List.flatten_cons, List.flatten_cons, ← Lib.joinTail, ih]; rfl
theorem add_at (g k : Nat) : (⟨g, 0, none⟩ : Addr).add k = ⟨g, 0 + k, none⟩ := by
  unfold Addr.add
  split
  · rename_i h; subst h; rfl
  · rfl
theorem join_any (B : Nat) (v : Value) (ls : List (List UInt8)) (w : World) (h : w.ownsRow B 9 1 v ls.length (strs ls)) (hz : ∀ s ∈ ls, s.length ≤ maxLen) (hN : ls.length ≤ 1000000) (hm : ls.flatten.length ≤ 140737488355328) :
    Calls Try.prog 100 #[v, .string ⟨#[]⟩] w fun e w' => e = .returned (.string (bstr ls.flatten)) ∧ Below w.heap.size w w' := by
  have hr : (Rp.sl Rp.str).ok w (· < w.heap.size) [v] (ls.map bstr) :=
    Rp.str_own (n := ls.length) (B := B) (e := 9) (by rw [List.map_map]; exact h) (fun x hx => by obtain ⟨s, hs, rfl⟩ := List.mem_map.1 hx; exact hz s hs) (fun g hg => (h.lt g hg).2)
  have hmm : (ls.map bstr).map (·.data.toList) = ls := by rw [List.map_map]; exact (List.map_congr_left (fun x _ => rfl)).trans (List.map_id ls)
  rcases h.2 with ⟨rfl, hn⟩ | ⟨g, cap, cur, rfl, _, hh, hnc, hm2, _⟩
  · have hn : ls = [] := List.eq_nil_of_length_eq_zero hn
    subst hn
    exact (Any.strings_Join_none joinLays joinExtra none 0 ⟨#[]⟩ w).mono fun e w' ⟨he, hw⟩ => ⟨he, hw ▸ Below.refl _ _⟩
  · have hg := (h.lt g rfl).2
    unfold maxLen at hm2
    have := Any.strings_Join joinLays joinExtra g 0 cap (ls.map bstr) ⟨#[]⟩ w (fun j x hx => by
      obtain ⟨hj, hx⟩ := List.getElem?_eq_some_iff.1 hx
      obtain ⟨ad, u, e, _, hu, hc⟩ := Rp.sl_at1 rfl hr hj
      injection e with e
      subst e
      obtain ⟨hu, _⟩ := hu
      injection hu with hu
      rw [add_at] at hc
      rw [hc, hu, hx]) hg (by rw [List.length_map]; omega) (by rw [List.length_map]; exact hnc) (by rw [hmm]; change (Lib.join ls []).length ≤ _; rw [join_flat]; exact hm)
    rw [List.length_map, hmm] at this
    refine this.mono ?_
    rintro e w' ⟨rfl, hb⟩
    refine ⟨?_, hb⟩
    change Ending.returned (.string ⟨(Lib.join ls []).toArray⟩) = _
    rw [join_flat]; rfl
end Go.Proofs.Ytofahmdjhpbecaa
