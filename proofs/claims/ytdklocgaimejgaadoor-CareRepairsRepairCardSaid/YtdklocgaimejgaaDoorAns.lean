/-
  'Answers' of both packages.
-/
import Derived.Test.YtdklocgaimejgaaDoorProg
import Derived.Test.YtdklocgaimejgaaDoorName
import Derived.Test.YtdklocgaimejgaaDoorFirstF
import Derived.Test.YtdklocgaimejgaaDoorRows11
namespace Go.Proofs.YtdklocgaimejgaaDoor
open Go.RowKit
set_option linter.unusedVariables false
set_option linter.unusedSimpArgs false

structure Rep where
  site : List UInt8
  answer : List UInt8
deriving Inhabited
def repRp : Rp Rep := (Rp.pair Rp.str Rp.str).via fun r => (bstr r.site, bstr r.answer)
theorem rep_open {w : World} {S : Nat → Prop} {us : List Value} {c : Rep} (h : repRp.ok w S us c) : us = [.string (bstr c.site), .string (bstr c.answer)] ∧ c.site.length ≤ maxLen ∧ c.answer.length ≤ maxLen := by
  obtain ⟨_, _, rfl, ⟨rfl, h1⟩, ⟨rfl, h2⟩⟩ := h
  exact ⟨rfl, h1, h2⟩
def ansF (l : List Rep) (i : Nat) : Int :=
  if isNm (l.getD i default).site = false then 5 else if (l.getD i default).answer ≠ [] ∧ isDig (l.getD i default).answer = false then 3
  else if 0 < i ∧ sle (l.getD i default).site (l.getD (i - 1) default).site = true then 8 else 0
def ansFault (nonce right : List UInt8) (l : List Rep) : Int :=
  if isRowB nonce 100 = false ∨ isDig right = false then 3 else if 50 < l.length then 2 else firstF (ansF l) l.length
def ansKeep (right : List UInt8) (l : List Rep) : List (List UInt8) := (l.filter fun r => decide (r.answer ≠ right)).map (·.site)
def ansOut (nonce right : List UInt8) (l : List Rep) : List (List UInt8) := if ansFault nonce right l = 0 then ansKeep right l else []
def AnsPost (nonce right : List UInt8) (l : List Rep) (w : World) (e : Ending) (w' : World) : Prop :=
  ∃ v, e = .returned (.tuple #[v, .int .i64 (ansFault nonce right l)]) ∧ (Rp.sl Rp.str).ok w' (· < w'.heap.size) [v] ((ansOut nonce right l).map bstr) ∧ Below w.heap.size w w'
theorem AnsPost.bad {nonce right : List UInt8} {l : List Rep} {f : Int} {w w' : World} (h : ansFault nonce right l = f) (h0 : f ≠ 0) (hb : Below w.heap.size w w') : AnsPost nonce right l w (.returned (.tuple #[.slice none 0 0, .int .i64 f])) w' := by
  refine ⟨_, by rw [h], ?_, hb⟩
  rw [ansOut, if_neg (by rw [h]; exact h0)]
  exact Rp.sl_nil _ _ _
theorem AnsPost.good {nonce right : List UInt8} {l : List Rep} {v : Value} {w w' : World} (h : ansFault nonce right l = 0) (hv : (Rp.sl Rp.str).ok w' (· < w'.heap.size) [v] ((ansKeep right l).map bstr)) (hb : Below w.heap.size w w') : AnsPost nonce right l w (.returned (.tuple #[v, .int .i64 0])) w' := by
  refine ⟨v, by rw [h], ?_, hb⟩
  rw [ansOut, if_pos h]
  exact hv
theorem ansF_1 {l : List Rep} {i : Nat} (hi : i < l.length) (h : isNm l[i].site = false) : ansF l i = 5 := by
  rw [ansF, getD_at _ _ hi, if_pos h]
theorem ansF_2 {l : List Rep} {i : Nat} (hi : i < l.length) (h : isNm l[i].site = true) (h1 : l[i].answer ≠ []) (h2 : isDig l[i].answer = false) : ansF l i = 3 := by
  rw [ansF, getD_at _ _ hi, if_neg (by rw [h]; decide), if_pos ⟨h1, h2⟩]
theorem ansF_3 {l : List Rep} {i : Nat} (hi : i < l.length) (h : isNm l[i].site = true) (h1 : ¬ (l[i].answer ≠ [] ∧ isDig l[i].answer = false)) (h2 : 0 < i) (h3 : sle l[i].site (l[i - 1]'(by omega)).site = true) : ansF l i = 8 := by
  rw [ansF, getD_at _ _ hi, getD_at _ _ (show i - 1 < l.length by omega), if_neg (by rw [h]; decide), if_neg h1, if_pos ⟨h2, h3⟩]
theorem ansF_4 {l : List Rep} {i : Nat} (hi : i < l.length) (h : isNm l[i].site = true) (h1 : ¬ (l[i].answer ≠ [] ∧ isDig l[i].answer = false)) (h2 : ¬ (0 < i ∧ sle l[i].site (l[i - 1]'(by omega)).site = true)) : ansF l i = 0 := by
  rw [ansF, getD_at _ _ hi, getD_at _ _ (show i - 1 < l.length by omega), if_neg (by rw [h]; decide), if_neg h1, if_neg h2]
theorem ansFault_at {nonce right : List UInt8} {l : List Rep} {i : Nat} (h1 : isRowB nonce 100 = true) (h2 : isDig right = true) (h3 : ¬ 50 < l.length) (hi : i < l.length) (hS : ∀ j, j < i → ansF l j = 0) {f : Int} (hf : ansF l i = f) (h0 : f ≠ 0) : ansFault nonce right l = f := by
  rw [ansFault, if_neg (by rw [h1, h2]; simp), if_neg h3, firstF_at hi hS (by rw [hf]; exact h0), hf]
theorem ansFault_ok {nonce right : List UInt8} {l : List Rep} (h1 : isRowB nonce 100 = true) (h2 : isDig right = true) (h3 : ¬ 50 < l.length) (hS : ∀ j, j < l.length → ansF l j = 0) : ansFault nonce right l = 0 := by
  rw [ansFault, if_neg (by rw [h1, h2]; simp), if_neg h3, firstF_ok hS]
theorem ansKeep_take {right : List UInt8} {l : List Rep} {i : Nat} (hi : i < l.length) : ansKeep right (l.take (i + 1)) = ansKeep right (l.take i) ++ if l[i].answer = right then [] else [l[i].site] := by
  rw [List.take_succ_eq_append_getElem hi, ansKeep, List.filter_append, List.map_append]
  by_cases h : l[i].answer = right <;> simp [h, ansKeep]
theorem ansKeep_len (right : List UInt8) (l : List Rep) : (ansKeep right l).length ≤ l.length := by
  rw [ansKeep, List.length_map]; exact List.length_filter_le _ _
theorem ansKeep_mem {right : List UInt8} {l : List Rep} {s : List UInt8} (h : s ∈ ansKeep right l) : ∃ r ∈ l, r.site = s := by
  obtain ⟨r, hr, e⟩ := List.mem_map.1 h
  exact ⟨r, (List.mem_filter.1 hr).1, e⟩
theorem rep_sizes {w : World} {S : Nat → Prop} {v : Value} {l : List Rep} (h : (Rp.sl repRp).ok w S [v] l) : ∀ r ∈ l, r.site.length ≤ maxLen ∧ r.answer.length ≤ maxLen := by
  intro r hr
  obtain ⟨k, hk, rfl⟩ := List.getElem_of_mem hr
  obtain ⟨A, cp, rfl, _⟩ := Rp.sl_open h
  obtain ⟨_, us, _, _, _, hu, _⟩ := Rp.sl_at h hk
  exact (rep_open hu).2
end Go.Proofs.YtdklocgaimejgaaDoor
