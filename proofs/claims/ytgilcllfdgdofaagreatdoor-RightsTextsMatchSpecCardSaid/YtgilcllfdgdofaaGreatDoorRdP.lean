/-
  Rights as a text: what is read, in plain words.
-/
import Derived.Test.YtgilcllfdgdofaaGreatDoorRights
import Derived.Test.YtgilcllfdgdofaaGreatDoorTrim
import Derived.Lib.Split
import Derived.Lib.IndexMore
import Derived.Lib.Atoi
namespace Go.Proofs.YtgilcllfdgdofaaGreatDoor
open Go.RowKit
set_option linter.unusedVariables false
set_option linter.unusedSimpArgs false

/-! ### Parts of a line -/
theorem idx_none (c : UInt8) : ∀ {x : List UInt8}, c ∉ x → Lib.index x [c] = -1
  | [], _ => rfl
  | b :: x, h => by
    have hb : ¬ c = b := fun e => h (by rw [e]; exact List.mem_cons_self ..)
    unfold Lib.index
    rw [idx_none c (fun e => h (List.mem_cons_of_mem _ e))]
    simp [List.isPrefixOf, hb]
theorem idx_at (c : UInt8) {r : List UInt8} : ∀ {x : List UInt8}, c ∉ x → Lib.index (x ++ c :: r) [c] = (x.length : Int)
  | [], _ => by
    show Lib.index (c :: r) [c] = 0
    unfold Lib.index
    simp [List.isPrefixOf]
  | b :: x, h => by
    have hb : ¬ c = b := fun e => h (by rw [e]; exact List.mem_cons_self ..)
    show Lib.index (b :: (x ++ c :: r)) [c] = _
    unfold Lib.index
    rw [idx_at c (fun e => h (List.mem_cons_of_mem _ e))]
    have h1 : ([c].isPrefixOf (b :: (x ++ c :: r))) = false := by simp [List.isPrefixOf, hb]
    have h2 : (((x.length : Nat) : Int) == -1) = false := by rw [beq_eq_false_iff_ne]; omega
    rw [h1, h2]
    simp
theorem sp_cases (c : UInt8) : ∀ s : List UInt8, c ∉ s ∨ ∃ x r, s = x ++ c :: r ∧ c ∉ x
  | [] => .inl (by simp)
  | b :: s => by
    by_cases e : b = c
    · exact .inr ⟨[], s, by rw [e]; rfl, by simp⟩
    · rcases sp_cases c s with h | ⟨x, r, rfl, h⟩
      · exact .inl (by simp [Ne.symm e, h])
      · exact .inr ⟨b :: x, r, rfl, by simp [Ne.symm e, h]⟩
theorem cut_none {x : List UInt8} (h : (10 : UInt8) ∉ x) : Lib.cut x [10] = (x, [], false) := by
  unfold Lib.cut
  rw [idx_none 10 h, if_neg (by decide)]
theorem cut_at {x r : List UInt8} (h : (10 : UInt8) ∉ x) : Lib.cut (x ++ 10 :: r) [10] = (x, r, true) := by
  unfold Lib.cut
  rw [idx_at 10 h, if_pos (by omega), Int.toNat_natCast, List.take_left' rfl]
  congr 2
  rw [show x ++ 10 :: r = (x ++ [10]) ++ r by simp]
  exact List.drop_left' (by simp)
def sg (s : List UInt8) : List (List UInt8) := Lib.split s [32]
theorem sg_one {s : List UInt8} (h : (32 : UInt8) ∉ s) : sg s = [s] := by
  unfold sg Lib.split
  rw [Lib.count_miss (idx_none 32 h)]
  rfl
theorem sg_cons {x r : List UInt8} (h : (32 : UInt8) ∉ x) : sg (x ++ 32 :: r) = x :: sg r := by
  have hd : (x ++ 32 :: r).drop (x.length + 1) = r := by
    rw [show x ++ 32 :: r = (x ++ [32]) ++ r by simp]
    exact List.drop_left' (by simp)
  have hc := Lib.count_hit (s := x ++ 32 :: r) (sub := [32]) (by simp) (idx_at 32 h)
  unfold sg Lib.split
  rw [hc, show ([32] : List UInt8).length = 1 from rfl, hd, Nat.add_comm]
  show Lib.splitK [32] 0 (Lib.count r [32] + 1) (x ++ 32 :: r) = _
  conv => lhs; unfold Lib.splitK
  rw [idx_at 32 h]
  have h2 : (((x.length : Nat) : Int) == -1) = false := by rw [beq_eq_false_iff_ne]; omega
  rw [h2, Int.toNat_natCast, Nat.add_zero, List.take_left' rfl, show ([32] : List UInt8).length = 1 from rfl, hd]
  rfl
theorem sg_ne (s : List UInt8) : sg s ≠ [] := by
  rcases sp_cases 32 s with h | ⟨x, r, rfl, h⟩
  · rw [sg_one h]; simp
  · rw [sg_cons h]; simp
theorem sg_two {s a b : List UInt8} (h : sg s = [a, b]) : s = a ++ 32 :: b ∧ (32 : UInt8) ∉ a ∧ (32 : UInt8) ∉ b := by
  rcases sp_cases 32 s with h1 | ⟨x, r, rfl, h1⟩
  · rw [sg_one h1] at h; simp at h
  · rw [sg_cons h1] at h
    injection h with e1 e2
    rcases sp_cases 32 r with h2 | ⟨y, t, rfl, h2⟩
    · rw [sg_one h2] at e2
      injection e2 with e2
      subst e1 e2
      exact ⟨rfl, h1, h2⟩
    · rw [sg_cons h2] at e2
      injection e2 with _ e2
      exact absurd e2 (sg_ne t)
theorem sg_of_two {a b : List UInt8} (ha : (32 : UInt8) ∉ a) (hb : (32 : UInt8) ∉ b) : sg (a ++ 32 :: b) = [a, b] := by rw [sg_cons ha, sg_one hb]
def wordB (s : List UInt8) : Bool := s.all rowByte && decide (1 ≤ s.length)
theorem word_no {s : List UInt8} (h : wordB s = true) : (32 : UInt8) ∉ s ∧ (10 : UInt8) ∉ s ∧ s ≠ [] := by
  unfold wordB at h
  rw [Bool.and_eq_true, decide_eq_true_iff, List.all_eq_true] at h
  refine ⟨fun e => absurd (h.1 _ e) (by decide), fun e => absurd (h.1 _ e) (by decide), fun e => ?_⟩
  rw [e] at h
  exact absurd h.2 (by decide)
def digSet : List UInt8 := [48, 49, 50, 51, 52, 53, 54, 55, 56, 57]
def numB (b : List UInt8) : Bool := (decide (1 ≤ b.length) && decide (b.length ≤ 12)) && (b.all (digSet.contains ·) && !(decide (b.head? = some 48) && decide (b ≠ [48])))
def numV (b : List UInt8) : Int := (Lib.atoi b).getD 0
theorem dig_val : ∀ b : UInt8, digSet.contains b = true → ∃ d : Nat, Lib.digitVal b = some d ∧ d ≤ 9 ∧ b ≠ 45 ∧ b ≠ 43 := by
  intro b hb
  have h : b ∈ digSet := by simpa using hb
  simp only [digSet, List.mem_cons, List.not_mem_nil, or_false] at h
  rcases h with rfl | rfl | rfl | rfl | rfl | rfl | rfl | rfl | rfl | rfl
  all_goals exact ⟨_, rfl, by decide, by decide, by decide⟩
theorem dec_from : ∀ (l : List UInt8) (acc : Nat), l.all (digSet.contains ·) = true → ∃ n : Nat, Lib.decFrom acc l = some n ∧ n < (acc + 1) * 10 ^ l.length
  | [], acc, _ => ⟨acc, rfl, by simp⟩
  | b :: l, acc, h => by
    rw [List.all_cons, Bool.and_eq_true] at h
    obtain ⟨d, hd, h9, _⟩ := dig_val b h.1
    obtain ⟨n, hn, hl⟩ := dec_from l (acc * 10 + d) h.2
    refine ⟨n, ?_, ?_⟩
    · rw [Lib.decFrom, hd]; exact hn
    · rw [List.length_cons, Nat.pow_succ]
      have h2 : (acc * 10 + d + 1) * 10 ^ l.length ≤ ((acc + 1) * 10) * 10 ^ l.length := Nat.mul_le_mul_right _ (by omega)
      have h3 : ((acc + 1) * 10) * 10 ^ l.length = (acc + 1) * (10 ^ l.length * 10) := by rw [Nat.mul_assoc, Nat.mul_comm 10]
      omega
theorem num_val {b : List UInt8} (h : numB b = true) : Lib.atoi b = some (numV b) ∧ 0 ≤ numV b ∧ numV b ≤ 1000000000000 := by
  unfold numB at h
  rw [Bool.and_eq_true, Bool.and_eq_true, Bool.and_eq_true, decide_eq_true_iff, decide_eq_true_iff] at h
  obtain ⟨⟨h1, h9⟩, hd, _⟩ := h
  cases b with
  | nil => simp at h1
  | cons c r =>
    have hc : digSet.contains c = true := by rw [List.all_cons, Bool.and_eq_true] at hd; exact hd.1
    obtain ⟨_, _, _, e45, e43⟩ := dig_val c hc
    obtain ⟨n, hn, hl⟩ := dec_from (c :: r) 0 hd
    have hp : (10 : Nat) ^ (c :: r).length ≤ 10 ^ 12 := Nat.pow_le_pow_right (by decide) h9
    have e : Lib.atoi (c :: r) = some (n : Int) := by
      unfold Lib.atoi
      dsimp only
      rw [if_neg (by simpa using e45), if_neg (by simpa using e43)]
      unfold Lib.decNat
      rw [if_neg (by simp), hn]
      rfl
    have ev : numV (c :: r) = (n : Int) := by unfold numV; rw [e]; rfl
    rw [e, ev]
    exact ⟨rfl, by omega, by omega⟩
theorem num_word {b : List UInt8} (h : numB b = true) : wordB b = true := by
  unfold numB at h
  rw [Bool.and_eq_true, Bool.and_eq_true, Bool.and_eq_true, decide_eq_true_iff, decide_eq_true_iff] at h
  obtain ⟨⟨h1, h9⟩, hd, _⟩ := h
  unfold wordB
  rw [Bool.and_eq_true, decide_eq_true_iff]
  refine ⟨?_, h1⟩
  rw [List.all_eq_true] at hd ⊢
  intro x hx
  have h : x ∈ digSet := by simpa using hd x hx
  simp only [digSet, List.mem_cons, List.not_mem_nil, or_false] at h
  rcases h with rfl | rfl | rfl | rfl | rfl | rfl | rfl | rfl | rfl | rfl <;> rfl
/-! ### A line -/
def kAll : List UInt8 := [97, 108, 108]
def kTeam : List UInt8 := [116, 101, 97, 109]
def kHouse : List UInt8 := [104, 111, 117, 115, 101]
def kNone : List UInt8 := [110, 111, 110, 101]
def kindOf (s : List UInt8) : Int := if s = kAll then 1 else if s = kTeam then 2 else if s = kHouse then 3 else if s = kNone then 4 else 0
theorem kind_range (s : List UInt8) : 0 ≤ kindOf s ∧ kindOf s ≤ 4 := by
  unfold kindOf
  repeat' split
  all_goals decide
theorem kind_word {s : List UInt8} (h : kindOf s ≠ 0) : wordB s = true := by
  unfold kindOf at h
  split at h
  · rename_i e; rw [e]; rfl
  split at h
  · rename_i e; rw [e]; rfl
  split at h
  · rename_i e; rw [e]; rfl
  split at h
  · rename_i e; rw [e]; rfl
  · exact absurd rfl h
def unDash (s : List UInt8) : List UInt8 := if s = [45] then [] else s
theorem unDash_len (s : List UInt8) : (unDash s).length ≤ s.length := by unfold unDash; split <;> simp
def lineOk (a b c d e f g h i : List UInt8) : Bool := ((wordB a && wordB b) && wordB i) && (((numB c && numB d) && (numB e && (numB f && numB g))) && decide (kindOf h ≠ 0))
def mkR (a b c d e f g h i : List UInt8) : Rgt := ⟨a, unDash b, numV c, numV d, numV e, numV f, numV g, kindOf h, unDash i⟩
def lineR (s : List UInt8) : Option Rgt :=
  match sg s with
  | [a, b, c, d, e, f, g, h, i] => if lineOk a b c d e f g h i = true then some (mkR a b c d e f g h i) else none
  | _ => none
theorem lineR_9 {s a b c d e f g h i : List UInt8} (hs : sg s = [a, b, c, d, e, f, g, h, i]) : lineR s = if lineOk a b c d e f g h i = true then some (mkR a b c d e f g h i) else none := by unfold lineR; rw [hs]
theorem nine_of {l : List (List UInt8)} (h : l.length = 9) : ∃ a b c d e f g h i, l = [a, b, c, d, e, f, g, h, i] := by
  match l, h with
  | [a, b, c, d, e, f, g, h, i], _ => exact ⟨a, b, c, d, e, f, g, h, i, rfl⟩
theorem lineR_no {s : List UInt8} (h : (sg s).length ≠ 9) : lineR s = none := by
  unfold lineR
  split
  · rename_i e; rw [e] at h; exact absurd rfl h
  · rfl
theorem sg_len_le : ∀ (n : Nat) (s : List UInt8), s.length ≤ n → ∀ x ∈ sg s, x.length ≤ s.length
  | n, s, hn, x, hx => by
    rcases sp_cases 32 s with h | ⟨y, r, rfl, h⟩
    · rw [sg_one h] at hx
      rw [List.mem_singleton.1 hx]; exact Nat.le_refl _
    · rw [sg_cons h] at hx
      rcases List.mem_cons.1 hx with rfl | hx
      · simp
      · cases n with
        | zero => simp at hn
        | succ n =>
          have := sg_len_le n r (by simp at hn; omega) x hx
          simp; omega
theorem mkR_ok {a b c d e f g h i s : List UInt8} (hs : sg s = [a, b, c, d, e, f, g, h, i]) (hl : s.length ≤ 300000) (ho : lineOk a b c d e f g h i = true) : RgtOk (mkR a b c d e f g h i) := by
  have hle := sg_len_le _ s (Nat.le_refl _)
  rw [hs] at hle
  have ha := hle a (by simp)
  have hb := hle b (by simp)
  have hi := hle i (by simp)
  have ub := unDash_len b
  have ui := unDash_len i
  unfold lineOk at ho
  simp only [Bool.and_eq_true] at ho
  obtain ⟨_, ⟨⟨hc, hd⟩, he, hf, hg⟩, _⟩ := ho
  have nc := (num_val hc).2
  have nd := (num_val hd).2
  have ne := (num_val he).2
  have nf := (num_val hf).2
  have ng := (num_val hg).2
  have nk := kind_range h
  have wf : ∀ z : Int, 0 ≤ z → z ≤ 1000000000000 → (Lit.int .i64 z).wf = true := fun z h0 h1 => WalkArith.wf_i64 ⟨by omega, by omega⟩
  unfold RgtOk mkR maxLen
  exact ⟨by dsimp only; omega, by dsimp only; omega, wf _ nc.1 nc.2, wf _ nd.1 nd.2, wf _ ne.1 ne.2, wf _ nf.1 nf.2, wf _ ng.1 ng.2, wf (kindOf h) nk.1 (by omega), by dsimp only; omega⟩
/-! ### All lines -/
def rdR : Nat → Nat → List Rgt → List UInt8 → Nat × Option (List Rgt)
  | 0, i, _, _ => (i, none)
  | f + 1, i, l, rest =>
    if rest = [] then (i, some l)
    else if (Lib.cut rest [10]).2.2 = true then
      match lineR (Lib.cut rest [10]).1 with
      | none => (i, none)
      | some x => rdR f (i + 1) (l ++ [x]) (Lib.cut rest [10]).2.1
    else (i, none)
def rdAll (text : List UInt8) : Nat × Option (List Rgt) := rdR (text.length + 1) 1 [] text
/-- Where the lines stand: l is read, rest is what is left. -/
def At (text : List UInt8) (l : List Rgt) (rest : List UInt8) : Prop := l.length + rest.length ≤ text.length ∧ (∃ f, rest.length < f ∧ rdAll text = rdR f (l.length + 1) l rest)
theorem At.start (text : List UInt8) : At text [] text := ⟨by simp, _, Nat.lt_succ_self _, rfl⟩
theorem At.done {text : List UInt8} {l : List Rgt} (h : At text l []) : rdAll text = (l.length + 1, some l) := by
  obtain ⟨_, f, hf, e⟩ := h
  obtain ⟨g, rfl⟩ : ∃ g, f = g + 1 := ⟨f - 1, by simp at hf; omega⟩
  rw [e, rdR, if_pos rfl]
theorem At.cut {text : List UInt8} {l : List Rgt} {rest : List UInt8} (h : At text l rest) (hr : rest ≠ []) (hc : (10 : UInt8) ∉ rest) : rdAll text = (l.length + 1, none) := by
  obtain ⟨_, f, hf, e⟩ := h
  obtain ⟨g, rfl⟩ : ∃ g, f = g + 1 := ⟨f - 1, by omega⟩
  rw [e, rdR, if_neg hr, cut_none hc]
  rfl
theorem At.bad {text : List UInt8} {l : List Rgt} {s r : List UInt8} (h : At text l (s ++ 10 :: r)) (hs : (10 : UInt8) ∉ s) (hl : lineR s = none) : rdAll text = (l.length + 1, none) := by
  obtain ⟨_, f, hf, e⟩ := h
  obtain ⟨g, rfl⟩ : ∃ g, f = g + 1 := ⟨f - 1, by omega⟩
  rw [e, rdR, if_neg (by simp), cut_at hs, if_pos rfl, hl]
theorem At.next {text : List UInt8} {l : List Rgt} {x : Rgt} {s r : List UInt8} (h : At text l (s ++ 10 :: r)) (hs : (10 : UInt8) ∉ s) (hl : lineR s = some x) : At text (l ++ [x]) r := by
  obtain ⟨h0, f, hf, e⟩ := h
  obtain ⟨g, rfl⟩ : ∃ g, f = g + 1 := ⟨f - 1, by omega⟩
  refine ⟨by simp at h0 ⊢; omega, g, by simp at hf; omega, ?_⟩
  rw [e, rdR, if_neg (by simp), cut_at hs, if_pos rfl, hl]
  simp
/-! ### Rights by themselves; what Read answers -/
def aloF (l : List Rgt) (i : Nat) : Int :=
  if isNm (l.getD i default).id = false then 5 else if (l.getD i default).id ∈ (l.take i).map (·.id) then 7 else rgF (l.getD i default)
def aloFault (l : List Rgt) : Int := if 300 < l.length then 2 else firstF (aloF l) l.length
theorem alo_1 {l : List Rgt} (h : 300 < l.length) : aloFault l = 2 := if_pos h
theorem alo_2 {l : List Rgt} (h : ¬ 300 < l.length) {i : Nat} (hi : i < l.length) (hS : ∀ j, j < i → aloF l j = 0) {f : Int} (hf : aloF l i = f) (hn : f ≠ 0) : aloFault l = f := by
  rw [aloFault, if_neg h, firstF_at hi hS (by rw [hf]; exact hn), hf]
theorem alo_3 {l : List Rgt} (h : ¬ 300 < l.length) (hS : ∀ j, j < l.length → aloF l j = 0) : aloFault l = 0 := by
  rw [aloFault, if_neg h, firstF_ok hS]
def rrOut (text : List UInt8) : List Rgt × Nat × Int :=
  if 300000 < text.length then ([], 0, 2)
  else match rdAll text with
    | (i, none) => ([], i, 10)
    | (i, some l) => if aloFault l ≠ 0 then ([], 0, aloFault l) else (l, 0, 0)
theorem rr_large {text : List UInt8} (h : 300000 < text.length) : rrOut text = ([], 0, 2) := if_pos h
theorem rr_syn {text : List UInt8} {i : Nat} (h : ¬ 300000 < text.length) (hr : rdAll text = (i, none)) : rrOut text = ([], i, 10) := by rw [rrOut, if_neg h, hr]
theorem rr_alo {text : List UInt8} {i : Nat} {l : List Rgt} (h : ¬ 300000 < text.length) (hr : rdAll text = (i, some l)) (hp : aloFault l ≠ 0) : rrOut text = ([], 0, aloFault l) := by
  rw [rrOut, if_neg h, hr]; exact if_pos hp
theorem rr_ok {text : List UInt8} {i : Nat} {l : List Rgt} (h : ¬ 300000 < text.length) (hr : rdAll text = (i, some l)) (hp : aloFault l = 0) : rrOut text = (l, 0, 0) := by
  rw [rrOut, if_neg h, hr]; exact if_neg (by rw [hp]; simp)
def RrPost (text : List UInt8) (w : World) (e : Ending) (w' : World) : Prop :=
  ∃ v, e = .returned (.tuple #[v, .int .i64 ((rrOut text).2.1 : Int), .int .i64 (rrOut text).2.2]) ∧ (Rp.sl rgtRp).ok w' (· < w'.heap.size) [v] (rrOut text).1 ∧ Below w.heap.size w w'
end Go.Proofs.YtgilcllfdgdofaaGreatDoor
