/-
  What changes make of a text: plain facts.
-/
import Derived.Test.YtofahmdjhpbecaaProg
import Derived.Test.YtofahmdjhpbecaaChkChange
import Derived.Test.YtofahmdjhpbecaaMany
import Derived.Test.YtofahmdjhpbecaaChgCnt
namespace Go.Proofs.Ytofahmdjhpbecaa
open Go.RowKit
set_option linter.unusedVariables false
set_option linter.unusedSimpArgs false

/-- The lines of the changes whose kind is another one. -/
def keepL (k : Int) (l : List Ch) : List (List UInt8) := l.flatMap fun c => if c.kind = k then [] else c.ls
theorem keepL_nil (k : Int) : keepL k [] = [] := rfl
theorem keepL_cons (k : Int) (c : Ch) (l : List Ch) : keepL k (c :: l) = (if c.kind = k then [] else c.ls) ++ keepL k l := rfl
theorem keepL_app (k : Int) (l m : List Ch) : keepL k (l ++ m) = keepL k l ++ keepL k m := by simp [keepL]
theorem keepL_take (k : Int) (l : List Ch) (i : Nat) (h : i < l.length) : keepL k (l.take (i + 1)) = keepL k (l.take i) ++ if l[i].kind = k then [] else l[i].ls := by
  rw [List.take_succ_eq_append_getElem h, keepL_app, keepL_cons, keepL_nil, List.append_nil]
theorem keepL_drop (k : Int) (l : List Ch) (i : Nat) (h : i < l.length) : keepL k (l.drop i) = (if l[i].kind = k then [] else l[i].ls) ++ keepL k (l.drop (i + 1)) := by
  rw [List.drop_eq_getElem_cons h, keepL_cons]
/-- More changes, or more lines in one of them, than may be. -/
def tooMany (l : List Ch) : Bool := decide (800 < l.length) || l.any fun c => decide ((400 : Int) < c.ls.length)
/-- The fault of the first bad change. -/
def chsFault : List Ch → Int
  | [] => 0
  | c :: l => if chFault c = 0 then chsFault l else chFault c
theorem chsFault_at : ∀ (l : List Ch) (i : Nat) (h : i < l.length), (∀ c ∈ l.take i, chFault c = 0) → chFault l[i] ≠ 0 → chsFault l = chFault l[i]
  | [], i, h, _, _ => by simp at h
  | c :: l, 0, h, _, hb => by rw [chsFault]; exact if_neg hb
  | c :: l, i + 1, h, ha, hb => by
    rw [chsFault, if_pos (ha c (by simp))]
    exact chsFault_at l i (by simpa using h) (fun d hd => ha d (by simp [hd])) hb
theorem chsFault_good : ∀ (l : List Ch), (∀ c ∈ l, chFault c = 0) → chsFault l = 0
  | [], _ => rfl
  | c :: l, h => by rw [chsFault, if_pos (h c (by simp))]; exact chsFault_good l fun d hd => h d (by simp [hd])
theorem chsFault_take {l : List Ch} {i : Nat} (h : ∀ c ∈ l.take i, chFault c = 0) (hi : i < l.length) (hb : chFault l[i] = 0) : ∀ c ∈ l.take (i + 1), chFault c = 0 := by
  intro c hc
  rw [List.take_succ_eq_append_getElem hi, List.mem_append, List.mem_singleton] at hc
  rcases hc with hc | rfl
  · exact h c hc
  · exact hb
theorem chsFault_ok : ∀ {l : List Ch}, chsFault l = 0 → ∀ c ∈ l, chFault c = 0
  | c :: l, h, d, hd => by
    rw [chsFault] at h
    split at h
    · rename_i hc
      rcases List.mem_cons.1 hd with rfl | hd
      · exact hc
      · exact chsFault_ok h d hd
    · rename_i hc; exact absurd h hc
theorem chFault_ok {c : Ch} (h : chFault c = 0) : 1 ≤ c.kind ∧ c.kind ≤ 3 ∧ c.ls ≠ [] ∧ c.ls.all lineOk = true := by
  unfold chFault at h
  split at h
  · omega
  · split at h
    · omega
    · split at h
      · rename_i h1 h2 h3; exact ⟨by omega, by omega, h2, h3⟩
      · omega
/-- A line ends with byte 10. -/
def lnEnd (t : List UInt8) : Bool := decide (t.getLast? = some 10)
/-- Each line but the last one does. -/
def ended (l : List (List UInt8)) : Bool := l.dropLast.all lnEnd
theorem ended_bad {l : List (List UInt8)} {i : Nat} (h : i + 1 < l.length) (hb : lnEnd l[i] = false) : ended l = false := by
  rw [ended, List.all_eq_false]
  refine ⟨l[i], ?_, by rw [hb]; decide⟩
  rw [List.dropLast_eq_take]
  exact List.mem_take_iff_getElem.2 ⟨i, by omega, rfl⟩
theorem ended_good {l : List (List UInt8)} {i : Nat} (h : l.length ≤ i + 1) (hb : (l.take i).all lnEnd = true) : ended l = true := by
  rw [ended, List.all_eq_true] at *
  intro x hx
  refine hb x ?_
  rw [List.dropLast_eq_take] at hx
  exact List.take_subset_take_left l (by omega) hx
/-- The fault of changes at a text. -/
def madeFault (t : List UInt8) (l : List Ch) (come gone : Int) : Int :=
  if 20000 < t.length then 2 else if tooMany l = true then 2 else if chsFault l ≠ 0 then chsFault l else if keepL come l ≠ linesL t then 12
  else if ended (keepL gone l) = false then 3 else if 20000 < (keepL gone l).flatten.length then 2 else 0
def madeStr (t : List UInt8) (l : List Ch) (come gone : Int) : List UInt8 := if madeFault t l come gone = 0 then (keepL gone l).flatten else []
section
variable {t : List UInt8} {l : List Ch} {come gone : Int}
theorem made_1 (h : 20000 < t.length) : madeFault t l come gone = 2 := if_pos h
theorem made_2 (h1 : t.length ≤ 20000) (h : tooMany l = true) : madeFault t l come gone = 2 := by rw [madeFault, if_neg (by omega), if_pos h]
theorem made_3 (h1 : t.length ≤ 20000) (h2 : tooMany l = false) {f : Int} (h : chsFault l = f) (h0 : f ≠ 0) : madeFault t l come gone = f := by
  rw [madeFault, if_neg (by omega), if_neg (by rw [h2]; decide), if_pos (by rw [h]; exact h0), h]
theorem made_4 (h1 : t.length ≤ 20000) (h2 : tooMany l = false) (h3 : chsFault l = 0) (h : keepL come l ≠ linesL t) : madeFault t l come gone = 12 := by
  rw [madeFault, if_neg (by omega), if_neg (by rw [h2]; decide), if_neg (by rw [h3]; decide), if_pos h]
theorem made_5 (h1 : t.length ≤ 20000) (h2 : tooMany l = false) (h3 : chsFault l = 0) (h4 : keepL come l = linesL t) (h : ended (keepL gone l) = false) : madeFault t l come gone = 3 := by
  rw [madeFault, if_neg (by omega), if_neg (by rw [h2]; decide), if_neg (by rw [h3]; decide), if_neg (by rw [h4]; simp), if_pos h]
theorem made_6 (h1 : t.length ≤ 20000) (h2 : tooMany l = false) (h3 : chsFault l = 0) (h4 : keepL come l = linesL t) (h5 : ended (keepL gone l) = true) (h : 20000 < (keepL gone l).flatten.length) : madeFault t l come gone = 2 := by
  rw [madeFault, if_neg (by omega), if_neg (by rw [h2]; decide), if_neg (by rw [h3]; decide), if_neg (by rw [h4]; simp), if_neg (by rw [h5]; decide), if_pos h]
theorem made_7 (h1 : t.length ≤ 20000) (h2 : tooMany l = false) (h3 : chsFault l = 0) (h4 : keepL come l = linesL t) (h5 : ended (keepL gone l) = true) (h : (keepL gone l).flatten.length ≤ 20000) : madeFault t l come gone = 0 := by
  rw [madeFault, if_neg (by omega), if_neg (by rw [h2]; decide), if_neg (by rw [h3]; decide), if_neg (by rw [h4]; simp), if_neg (by rw [h5]; decide), if_neg (by omega)]
theorem madeStr_bad (h : madeFault t l come gone ≠ 0) : madeStr t l come gone = [] := if_neg h
theorem madeStr_good (h : madeFault t l come gone = 0) : madeStr t l come gone = (keepL gone l).flatten := if_pos h
end
def MadePost (t : List UInt8) (l : List Ch) (come gone : Int) (w : World) (e : Ending) (w' : World) : Prop :=
  e = .returned (.tuple #[.string (bstr (madeStr t l come gone)), .int .i64 (madeFault t l come gone)]) ∧ Below w.heap.size w w'
theorem MadePost.bad {t : List UInt8} {l : List Ch} {come gone f : Int} {w w' : World} (h : madeFault t l come gone = f) (h0 : f ≠ 0) (hb : Below w.heap.size w w') :
    MadePost t l come gone w (.returned (.tuple #[.string ⟨#[]⟩, .int .i64 f])) w' := by
  refine ⟨?_, hb⟩
  rw [madeStr_bad (by rw [h]; exact h0), h]; rfl
theorem MadePost.good {t : List UInt8} {l : List Ch} {come gone : Int} {w w' : World} (h : madeFault t l come gone = 0) (hb : Below w.heap.size w w') :
    MadePost t l come gone w (.returned (.tuple #[.string (bstr (keepL gone l).flatten), .int .i64 0])) w' := by
  refine ⟨?_, hb⟩
  rw [madeStr_good h, h]

/- What changes between two lists of lines lead to. -/
theorem keepL_addL (j : Int) : ∀ (l : List Ch) (k : Int) (s : List UInt8), keepL j (addL l k s) = keepL j l ++ if k = j then [] else [s]
  | [], k, s => by rw [addL, keepL_cons, keepL_nil]; simp
  | [c], k, s => by
    rw [addL]
    by_cases h : c.kind = k
    · rw [if_pos h]
      subst h
      by_cases hj : c.kind = j <;> simp [keepL, hj]
    · rw [if_neg h]
      by_cases hj : c.kind = j <;> by_cases hk : k = j <;> simp [keepL, hj, hk]
  | c :: d :: l, k, s => by
    rw [addL, keepL_cons, keepL_addL j (d :: l) k s, keepL_cons j c, List.append_assoc]
theorem chGo_keeps : ∀ (a b : List (List UInt8)) (out : List Ch), keepL 3 (chGo a b out) = keepL 3 out ++ a ∧ keepL 2 (chGo a b out) = keepL 2 out ++ b
  | [], [], out => by rw [chGo]; simp
  | [], y :: b, out => by
    obtain ⟨h1, h2⟩ := chGo_keeps [] b (addL out 3 y)
    rw [chGo, h1, h2, keepL_addL, keepL_addL]; simp
  | x :: a, [], out => by
    obtain ⟨h1, h2⟩ := chGo_keeps a [] (addL out 2 x)
    rw [chGo, h1, h2, keepL_addL, keepL_addL]; simp
  | x :: a, y :: b, out => by
    rw [chGo]
    split
    · rename_i h
      obtain ⟨h1, h2⟩ := chGo_keeps a b (addL out 1 x)
      rw [h1, h2, keepL_addL, keepL_addL, h.1]; simp
    · split
      · obtain ⟨h1, h2⟩ := chGo_keeps a (y :: b) (addL out 2 x)
        rw [h1, h2, keepL_addL, keepL_addL]; simp
      · obtain ⟨h1, h2⟩ := chGo_keeps (x :: a) b (addL out 3 y)
        rw [h1, h2, keepL_addL, keepL_addL]; simp
termination_by a b => a.length + b.length
theorem changesL_keeps (a b : List (List UInt8)) : keepL 3 (changesL a b) = a ∧ keepL 2 (changesL a b) = b := by
  have := chGo_keeps a b []
  simpa [keepL_nil, changesL] using this
theorem keepL_len_mem (k : Int) {l : List Ch} {c : Ch} (h : c ∈ l) (hk : c.kind ≠ k) : c.ls.length ≤ (keepL k l).length := by
  induction l with
  | nil => cases h
  | cons d l ih =>
    rw [keepL_cons, List.length_append]
    rcases List.mem_cons.1 h with rfl | h
    · rw [if_neg hk]; omega
    · have := ih h; omega
theorem cnt_len : ∀ (l : List Ch), (∀ c ∈ l, 1 ≤ c.kind ∧ c.kind ≤ 3 ∧ c.ls ≠ []) → l.length ≤ cnt l 1 + cnt l 2 + cnt l 3
  | [], _ => by simp
  | c :: l, h => by
    have ih := cnt_len l fun d hd => h d (by simp [hd])
    obtain ⟨h1, h2, h3⟩ := h c (by simp)
    have hp := List.length_pos_iff.2 h3
    rw [cnt_cons, cnt_cons, cnt_cons, List.length_cons]
    have : c.kind = 1 ∨ c.kind = 2 ∨ c.kind = 3 := by omega
    rcases this with e | e | e <;> simp [e] <;> omega
theorem sumIf_one : ∀ (l : List Ch), sumIf (fun k => k == 1) l = cnt l 1
  | [] => rfl
  | c :: l => by rw [sumIf, sumIf_one l, cnt_cons]; simp
theorem sumIf_ne (j : Int) : ∀ (l : List Ch), sumIf (fun k => k != j) l = (keepL j l).length
  | [] => rfl
  | c :: l => by
    rw [sumIf, sumIf_ne j l, keepL_cons, List.length_append]
    by_cases h : c.kind = j <;> simp [h]
theorem lcs_comm : ∀ (a b : List (List UInt8)), lcs a b = lcs b a
  | [], b => by rw [lcs_nil, lcs_nil']
  | x :: a, [] => by rw [lcs_nil, lcs_nil']
  | x :: a, y :: b => by
    rw [lcs_cons, lcs_cons, lcs_comm a (y :: b), lcs_comm (x :: a) b, lcs_comm a b]
    by_cases h : x = y
    · rw [if_pos h, if_pos h.symm]; omega
    · rw [if_neg h, if_neg (fun e => h e.symm)]; omega
termination_by a b => a.length + b.length
/- Lines of a text. -/
theorem linesL_flatten (t : List UInt8) : (linesL t).flatten = t := by
  induction hn : t.length using Nat.strongRecOn generalizing t with
  | _ n ih =>
    by_cases h : t = []
    · subst h; rw [linesL_nil]; rfl
    · rw [linesL_cons h, List.flatten_cons, ih _ ?_ _ rfl, List.take_append_drop]
      have := lnLen_pos h
      have := List.length_pos_iff.2 h
      rw [List.length_drop]; omega
theorem take_lnLen_ok : ∀ {t : List UInt8}, (10 : UInt8) ∉ (t.take (lnLen t)).dropLast
  | [] => by simp
  | c :: t => by
    rw [lnLen]
    split
    · simp
    · rename_i h
      rw [List.take_succ_cons]
      have ih := @take_lnLen_ok t
      by_cases he : t.take (lnLen t) = []
      · rw [he]; simp
      · rw [List.dropLast_cons_of_ne_nil he, List.mem_cons]
        rintro (e | e)
        · exact h e.symm
        · exact ih e
theorem take_lnLen_end : ∀ {t : List UInt8}, lnLen t < t.length → lnEnd (t.take (lnLen t)) = true
  | [], h => by simp at h
  | c :: t, h => by
    rw [lnLen] at h ⊢
    split
    · rename_i e; simp [lnEnd, e]
    · rename_i e
      rw [if_neg e] at h
      have hl : lnLen t < t.length := by simpa using h
      have ih := take_lnLen_end hl
      have hne : t ≠ [] := fun e => by rw [e] at hl; simp at hl
      have hp := lnLen_pos hne
      rw [List.take_succ_cons, lnEnd, List.getLast?_cons]
      rw [lnEnd, decide_eq_true_eq] at ih
      rw [ih]; rfl
theorem linesL_ok (t : List UInt8) : ∀ s ∈ linesL t, lineOk s = true := by
  induction hn : t.length using Nat.strongRecOn generalizing t with
  | _ n ih =>
    by_cases h : t = []
    · subst h; rw [linesL_nil]; intro s hs; cases hs
    · rw [linesL_cons h]
      have hp := lnLen_pos h
      have hp2 := List.length_pos_iff.2 h
      intro s hs
      rcases List.mem_cons.1 hs with rfl | hs
      · refine decide_eq_true ⟨fun e => ?_, take_lnLen_ok⟩
        have := congrArg List.length e
        rw [List.length_take, List.length_nil] at this
        omega
      · exact ih _ (by rw [List.length_drop]; omega) _ rfl s hs
theorem linesL_ended (t : List UInt8) : ended (linesL t) = true := by
  induction hn : t.length using Nat.strongRecOn generalizing t with
  | _ n ih =>
    by_cases h : t = []
    · subst h; rw [linesL_nil]; rfl
    · rw [linesL_cons h]
      have hp := lnLen_pos h
      have hp2 := List.length_pos_iff.2 h
      have hih := ih _ (by rw [List.length_drop]; omega) (t.drop (lnLen t)) rfl
      by_cases he : t.drop (lnLen t) = []
      · rw [he, linesL_nil]; rfl
      · have hlt : lnLen t < t.length := by
          have := List.length_pos_iff.2 he
          rw [List.length_drop] at this; omega
        have hne : linesL (t.drop (lnLen t)) ≠ [] := by rw [linesL_cons he]; simp
        unfold ended at hih ⊢
        rw [List.dropLast_cons_of_ne_nil hne, List.all_cons, hih, take_lnLen_end hlt]; rfl
end Go.Proofs.Ytofahmdjhpbecaa
