/-
  Manifests of chapter 11: what is read, in plain words.
-/
import Derived.Test.YtgfacedfndcgdaaGreatDoorPack
import Derived.Test.YtgfacedfndcgdaaGreatDoorTrim
import Derived.Lib.Split
import Derived.Lib.IndexMore
import Derived.Lib.LastIndexLaws
import Derived.Lib.Atoi
namespace Go.Proofs.YtgfacedfndcgdaaGreatDoor
open Go.RowKit
set_option linter.unusedVariables false
set_option linter.unusedSimpArgs false

/-! ### Parts of a line -/
theorem idx_none (c : UInt8) : ∀ {x : List UInt8}, c ∉ x → Lib.index x [c] = -1
  | [], _ => rfl
  | b :: x, h => by
    have hb : ¬ c = b := fun e => h (by rw [e]; exact List.mem_cons_self ..)
    unfold Lib.index
    rw [idx_none c (fun e => h (List.mem_cons_of_mem _ e))]
    simp [List.isPrefixOf, hb]
theorem idx_at (c : UInt8) {r : List UInt8} : ∀ {x : List UInt8}, c ∉ x → Lib.index (x ++ c :: r) [c] = (x.length : Int)
  | [], _ => by
    show Lib.index (c :: r) [c] = 0
    unfold Lib.index
    simp [List.isPrefixOf]
  | b :: x, h => by
    have hb : ¬ c = b := fun e => h (by rw [e]; exact List.mem_cons_self ..)
    show Lib.index (b :: (x ++ c :: r)) [c] = _
    unfold Lib.index
    rw [idx_at c (fun e => h (List.mem_cons_of_mem _ e))]
    have h1 : ([c].isPrefixOf (b :: (x ++ c :: r))) = false := by simp [List.isPrefixOf, hb]
    have h2 : (((x.length : Nat) : Int) == -1) = false := by rw [beq_eq_false_iff_ne]; omega
    rw [h1, h2]
    simp
theorem sp_cases (c : UInt8) : ∀ s : List UInt8, c ∉ s ∨ ∃ x r, s = x ++ c :: r ∧ c ∉ x
  | [] => .inl (by simp)
  | b :: s => by
    by_cases e : b = c
    · exact .inr ⟨[], s, by rw [e]; rfl, by simp⟩
    · rcases sp_cases c s with h | ⟨x, r, rfl, h⟩
      · exact .inl (by simp [Ne.symm e, h])
      · exact .inr ⟨b :: x, r, rfl, by simp [Ne.symm e, h]⟩
theorem cut_none {x : List UInt8} (h : (10 : UInt8) ∉ x) : Lib.cut x [10] = (x, [], false) := by
  unfold Lib.cut
  rw [idx_none 10 h, if_neg (by decide)]
theorem cut_at {x r : List UInt8} (h : (10 : UInt8) ∉ x) : Lib.cut (x ++ 10 :: r) [10] = (x, r, true) := by
  unfold Lib.cut
  rw [idx_at 10 h, if_pos (by omega), Int.toNat_natCast, List.take_left' rfl]
  congr 2
  rw [show x ++ 10 :: r = (x ++ [10]) ++ r by simp]
  exact List.drop_left' (by simp)
def sg (s : List UInt8) : List (List UInt8) := Lib.split s [32]
theorem sg_one {s : List UInt8} (h : (32 : UInt8) ∉ s) : sg s = [s] := by
  unfold sg Lib.split
  rw [Lib.count_miss (idx_none 32 h)]
  rfl
theorem sg_cons {x r : List UInt8} (h : (32 : UInt8) ∉ x) : sg (x ++ 32 :: r) = x :: sg r := by
  have hd : (x ++ 32 :: r).drop (x.length + 1) = r := by
    rw [show x ++ 32 :: r = (x ++ [32]) ++ r by simp]
    exact List.drop_left' (by simp)
  have hc := Lib.count_hit (s := x ++ 32 :: r) (sub := [32]) (by simp) (idx_at 32 h)
  unfold sg Lib.split
  rw [hc, show ([32] : List UInt8).length = 1 from rfl, hd, Nat.add_comm]
  show Lib.splitK [32] 0 (Lib.count r [32] + 1) (x ++ 32 :: r) = _
  conv => lhs; unfold Lib.splitK
  rw [idx_at 32 h]
  have h2 : (((x.length : Nat) : Int) == -1) = false := by rw [beq_eq_false_iff_ne]; omega
  rw [h2, Int.toNat_natCast, Nat.add_zero, List.take_left' rfl, show ([32] : List UInt8).length = 1 from rfl, hd]
  rfl
theorem sg_ne (s : List UInt8) : sg s ≠ [] := by
  rcases sp_cases 32 s with h | ⟨x, r, rfl, h⟩
  · rw [sg_one h]; simp
  · rw [sg_cons h]; simp
theorem sg_two {s a b : List UInt8} (h : sg s = [a, b]) : s = a ++ 32 :: b ∧ (32 : UInt8) ∉ a ∧ (32 : UInt8) ∉ b := by
  rcases sp_cases 32 s with h1 | ⟨x, r, rfl, h1⟩
  · rw [sg_one h1] at h; simp at h
  · rw [sg_cons h1] at h
    injection h with e1 e2
    rcases sp_cases 32 r with h2 | ⟨y, t, rfl, h2⟩
    · rw [sg_one h2] at e2
      injection e2 with e2
      subst e1 e2
      exact ⟨rfl, h1, h2⟩
    · rw [sg_cons h2] at e2
      injection e2 with _ e2
      exact absurd e2 (sg_ne t)
theorem sg_of_two {a b : List UInt8} (ha : (32 : UInt8) ∉ a) (hb : (32 : UInt8) ∉ b) : sg (a ++ 32 :: b) = [a, b] := by rw [sg_cons ha, sg_one hb]
def txtB (s : List UInt8) : Bool := isRowB s (s.length : Int)
theorem txt_no {s : List UInt8} (h : txtB s = true) : (32 : UInt8) ∉ s ∧ (10 : UInt8) ∉ s ∧ s ≠ [] := by
  unfold txtB isRowB at h
  rw [Bool.and_eq_true, Bool.and_eq_true, decide_eq_true_iff, List.all_eq_true] at h
  refine ⟨fun e => absurd (h.1 _ e) (by decide), fun e => absurd (h.1 _ e) (by decide), fun e => ?_⟩
  rw [e] at h
  exact absurd h.2.1 (by decide)
def digSet : List UInt8 := [48, 49, 50, 51, 52, 53, 54, 55, 56, 57]
def numB (b : List UInt8) : Bool := (decide (1 ≤ b.length) && decide (b.length ≤ 9)) && (b.all (digSet.contains ·) && !(decide (b.head? = some 48) && decide (b ≠ [48])))
def numV (b : List UInt8) : Int := (Lib.atoi b).getD 0
theorem dig_val : ∀ b : UInt8, digSet.contains b = true → ∃ d : Nat, Lib.digitVal b = some d ∧ d ≤ 9 ∧ b ≠ 45 ∧ b ≠ 43 := by
  intro b hb
  have h : b ∈ digSet := by simpa using hb
  simp only [digSet, List.mem_cons, List.not_mem_nil, or_false] at h
  rcases h with rfl | rfl | rfl | rfl | rfl | rfl | rfl | rfl | rfl | rfl
  all_goals exact ⟨_, rfl, by decide, by decide, by decide⟩
theorem dec_from : ∀ (l : List UInt8) (acc : Nat), l.all (digSet.contains ·) = true → ∃ n : Nat, Lib.decFrom acc l = some n ∧ n < (acc + 1) * 10 ^ l.length
  | [], acc, _ => ⟨acc, rfl, by simp⟩
  | b :: l, acc, h => by
    rw [List.all_cons, Bool.and_eq_true] at h
    obtain ⟨d, hd, h9, _⟩ := dig_val b h.1
    obtain ⟨n, hn, hl⟩ := dec_from l (acc * 10 + d) h.2
    refine ⟨n, ?_, ?_⟩
    · rw [Lib.decFrom, hd]; exact hn
    · rw [List.length_cons, Nat.pow_succ]
      have h2 : (acc * 10 + d + 1) * 10 ^ l.length ≤ ((acc + 1) * 10) * 10 ^ l.length := Nat.mul_le_mul_right _ (by omega)
      have h3 : ((acc + 1) * 10) * 10 ^ l.length = (acc + 1) * (10 ^ l.length * 10) := by rw [Nat.mul_assoc, Nat.mul_comm 10]
      omega
theorem num_val {b : List UInt8} (h : numB b = true) : Lib.atoi b = some (numV b) ∧ 0 ≤ numV b ∧ numV b ≤ 1000000000 := by
  unfold numB at h
  rw [Bool.and_eq_true, Bool.and_eq_true, Bool.and_eq_true, decide_eq_true_iff, decide_eq_true_iff] at h
  obtain ⟨⟨h1, h9⟩, hd, _⟩ := h
  cases b with
  | nil => simp at h1
  | cons c r =>
    have hc : digSet.contains c = true := by rw [List.all_cons, Bool.and_eq_true] at hd; exact hd.1
    obtain ⟨_, _, _, e45, e43⟩ := dig_val c hc
    obtain ⟨n, hn, hl⟩ := dec_from (c :: r) 0 hd
    have hp : (10 : Nat) ^ (c :: r).length ≤ 10 ^ 9 := Nat.pow_le_pow_right (by decide) h9
    have e : Lib.atoi (c :: r) = some (n : Int) := by
      unfold Lib.atoi
      dsimp only
      rw [if_neg (by simpa using e45), if_neg (by simpa using e43)]
      unfold Lib.decNat
      rw [if_neg (by simp), hn]
      rfl
    have ev : numV (c :: r) = (n : Int) := by unfold numV; rw [e]; rfl
    rw [e, ev]
    exact ⟨rfl, by omega, by omega⟩
theorem num_txt {b : List UInt8} (h : numB b = true) : txtB b = true := by
  unfold numB at h
  rw [Bool.and_eq_true, Bool.and_eq_true, Bool.and_eq_true, decide_eq_true_iff, decide_eq_true_iff] at h
  obtain ⟨⟨h1, h9⟩, hd, _⟩ := h
  unfold txtB isRowB
  rw [Bool.and_eq_true, Bool.and_eq_true, decide_eq_true_iff, decide_eq_true_iff]
  refine ⟨?_, h1, Int.le_refl _⟩
  rw [List.all_eq_true] at hd ⊢
  intro x hx
  have h : x ∈ digSet := by simpa using hd x hx
  simp only [digSet, List.mem_cons, List.not_mem_nil, or_false] at h
  rcases h with rfl | rfl | rfl | rfl | rfl | rfl | rfl | rfl | rfl | rfl <;> rfl
/-! ### A line -/
structure RS where
  nm : List UInt8
  ents : List Ent
  sl : List UInt8
  pre : List UInt8
deriving Inhabited
def kPack : List UInt8 := [112, 97, 99, 107, 97, 103, 101]
def kSeal : List UInt8 := [115, 101, 97, 108]
def entL (st : RS) (s : List UInt8) : Option RS :=
  match sg s with
  | [a, b, c] => if (txtB a && (numB b && txtB c)) = true then some { st with ents := st.ents ++ [⟨c, numV b, a⟩] } else none
  | _ => none
def lineF (first : Bool) (pre : List UInt8) (st : RS) (s : List UInt8) : Option RS :=
  if st.sl ≠ [] then none
  else if first = true then
    match sg s with
    | [a, b] => if a = kPack ∧ txtB b = true then some { st with nm := b } else none
    | _ => none
  else
    match sg s with
    | [a, b] => if a = kSeal ∧ txtB b = true then some { st with sl := b, pre := pre } else none
    | _ => entL st s
/-- What care sees: a line begins with a word and a space. -/
theorem pre_two {k s : List UInt8} (hk : (32 : UInt8) ∉ k) (h : Lib.hasPrefix s (k ++ [32]) = true) : s = k ++ 32 :: s.drop (k.length + 1) := by
  unfold Lib.hasPrefix at h
  obtain ⟨t, ht⟩ := List.isPrefixOf_iff_prefix.1 h
  rw [← ht]
  simp [List.append_assoc]
theorem two_pre {k b : List UInt8} : Lib.hasPrefix (k ++ 32 :: b) (k ++ [32]) = true ∧ (k ++ 32 :: b).drop (k.length + 1) = b := by
  refine ⟨?_, ?_⟩
  · unfold Lib.hasPrefix
    rw [List.isPrefixOf_iff_prefix]
    exact ⟨b, by simp⟩
  · rw [show k ++ 32 :: b = (k ++ [32]) ++ b by simp]
    exact List.drop_left' (by simp)
theorem line_pack {pre : List UInt8} {st : RS} {s : List UInt8} (hs : st.sl = []) (h : Lib.hasPrefix s (kPack ++ [32]) = true) (ht : txtB (s.drop 8) = true) : lineF true pre st s = some { st with nm := s.drop 8 } := by
  have e := pre_two (k := kPack) (by decide) h
  have e2 : sg s = [kPack, s.drop 8] := by
    conv => lhs; rw [e]
    exact sg_of_two (by decide) (txt_no ht).1
  unfold lineF
  rw [if_neg (by rw [hs]; simp), if_pos rfl, e2]
  simp [ht]
theorem line_pack_no {pre : List UInt8} {st : RS} {s : List UInt8} (h : ¬ (Lib.hasPrefix s (kPack ++ [32]) = true ∧ txtB (s.drop 8) = true)) : lineF true pre st s = none := by
  unfold lineF
  by_cases hs : st.sl ≠ []
  · rw [if_pos hs]
  · rw [if_neg hs, if_pos rfl]
    split
    · rename_i a b e
      refine if_neg (fun hc => h ?_)
      obtain ⟨e1, _⟩ := sg_two e
      rw [hc.1] at e1
      have := two_pre (k := kPack) (b := b)
      rw [e1]
      exact ⟨this.1, by rw [show (8 : Nat) = kPack.length + 1 from rfl, this.2]; exact hc.2⟩
    · rfl
theorem line_seal {pre : List UInt8} {st : RS} {s : List UInt8} (hs : st.sl = []) (h : Lib.hasPrefix s (kSeal ++ [32]) = true) (ht : txtB (s.drop 5) = true) : lineF false pre st s = some { st with sl := s.drop 5, pre := pre } := by
  have e := pre_two (k := kSeal) (by decide) h
  have e2 : sg s = [kSeal, s.drop 5] := by
    conv => lhs; rw [e]
    exact sg_of_two (by decide) (txt_no ht).1
  unfold lineF
  rw [if_neg (by rw [hs]; simp), if_neg (by decide), e2]
  simp [ht]
theorem line_ent {pre : List UInt8} {st : RS} {s : List UInt8} (hs : st.sl = []) (h : ¬ (Lib.hasPrefix s (kSeal ++ [32]) = true ∧ txtB (s.drop 5) = true)) : lineF false pre st s = entL st s := by
  unfold lineF
  rw [if_neg (by rw [hs]; simp), if_neg (by decide)]
  split
  · rename_i a b e
    rw [if_neg (fun hc => h ?_)]
    · unfold entL; rw [e]
    · obtain ⟨e1, _⟩ := sg_two e
      rw [hc.1] at e1
      have := two_pre (k := kSeal) (b := b)
      rw [e1]
      exact ⟨this.1, by rw [show (5 : Nat) = kSeal.length + 1 from rfl, this.2]; exact hc.2⟩
  · rfl
theorem line_sealed {first : Bool} {pre : List UInt8} {st : RS} {s : List UInt8} (hs : st.sl ≠ []) : lineF first pre st s = none := if_pos hs
/-! ### All lines -/
def rd : Nat → Nat → List UInt8 → RS → List UInt8 → Nat × Option RS
  | 0, i, _, _, _ => (i, none)
  | f + 1, i, pre, st, rest =>
    if rest = [] then (i, some st)
    else if (Lib.cut rest [10]).2.2 = true then
      match lineF (decide (i = 1)) pre st (Lib.cut rest [10]).1 with
      | none => (i, none)
      | some st' => rd f (i + 1) (pre ++ (Lib.cut rest [10]).1 ++ [10]) st' (Lib.cut rest [10]).2.1
    else (i, none)
def st0 : RS := ⟨[], [], [], []⟩
def rdAll (text : List UInt8) : Nat × Option RS := rd (text.length + 1) 1 [] st0 text
/-- Where the lines stand: i is the next one's number, rest is what is left. -/
def At (text : List UInt8) (i : Nat) (pre : List UInt8) (st : RS) (rest : List UInt8) : Prop := text = pre ++ rest ∧ (∃ f, rest.length < f ∧ rdAll text = rd f i pre st rest) ∧ (st.sl ≠ [] → txtB st.sl = true ∧ pre = st.pre ++ kSeal ++ [32] ++ st.sl ++ [10]) ∧ i ≤ pre.length + 1 ∧ 1 ≤ i
theorem At.start (text : List UInt8) : At text 1 [] st0 text := ⟨rfl, ⟨_, Nat.lt_succ_self _, rfl⟩, fun h => absurd rfl h, by simp, Nat.le_refl _⟩
theorem At.done {text : List UInt8} {i : Nat} {pre : List UInt8} {st : RS} (h : At text i pre st []) : rdAll text = (i, some st) := by
  obtain ⟨_, ⟨f, hf, e⟩, _⟩ := h
  obtain ⟨g, rfl⟩ : ∃ g, f = g + 1 := ⟨f - 1, by simp at hf; omega⟩
  rw [e, rd, if_pos rfl]
theorem At.cut {text : List UInt8} {i : Nat} {pre : List UInt8} {st : RS} {rest : List UInt8} (h : At text i pre st rest) (hr : rest ≠ []) (hc : (10 : UInt8) ∉ rest) : rdAll text = (i, none) := by
  obtain ⟨_, ⟨f, hf, e⟩, _⟩ := h
  obtain ⟨g, rfl⟩ : ∃ g, f = g + 1 := ⟨f - 1, by omega⟩
  rw [e, rd, if_neg hr, cut_none hc]
  rfl
theorem At.bad {text : List UInt8} {i : Nat} {pre : List UInt8} {st : RS} {s r : List UInt8} (h : At text i pre st (s ++ 10 :: r)) (hs : (10 : UInt8) ∉ s) (hl : lineF (decide (i = 1)) pre st s = none) : rdAll text = (i, none) := by
  obtain ⟨_, ⟨f, hf, e⟩, _⟩ := h
  obtain ⟨g, rfl⟩ : ∃ g, f = g + 1 := ⟨f - 1, by omega⟩
  rw [e, rd, if_neg (by simp), cut_at hs, if_pos rfl, hl]
theorem At.next {text : List UInt8} {i : Nat} {pre : List UInt8} {st st' : RS} {s r : List UInt8} (h : At text i pre st (s ++ 10 :: r)) (hs : (10 : UInt8) ∉ s) (hl : lineF (decide (i = 1)) pre st s = some st') : At text (i + 1) (pre ++ s ++ [10]) st' r := by
  obtain ⟨e0, ⟨f, hf, e⟩, _, hi, h1⟩ := h
  obtain ⟨g, rfl⟩ : ∃ g, f = g + 1 := ⟨f - 1, by omega⟩
  refine ⟨by rw [e0]; simp, ⟨g, by simp at hf; omega, ?_⟩, fun hn => ?_, by simp; omega, by omega⟩
  · rw [e, rd, if_neg (by simp), cut_at hs, if_pos rfl, hl]
  · unfold lineF at hl
    split at hl
    · cases hl
    rename_i hse
    have hse : st.sl = [] := Decidable.byContradiction hse
    split at hl
    · split at hl
      · split at hl
        · injection hl with hl; subst hl; exact absurd hse hn
        · cases hl
      · cases hl
    · split at hl
      · rename_i a b e2
        split at hl
        · rename_i hc
          injection hl with hl
          subst hl
          obtain ⟨e3, _⟩ := sg_two e2
          refine ⟨hc.2, ?_⟩
          rw [e3, hc.1]
          simp
        · cases hl
      · unfold entL at hl
        split at hl
        · split at hl
          · injection hl with hl; subst hl; exact absurd hse hn
          · cases hl
        · cases hl
/-- The last "seal " of a text whose last line is the seal. -/
theorem last_seal {pre x : List UInt8} (hx : txtB x = true) : Lib.lastIndex (pre ++ kSeal ++ [32] ++ x ++ [10]) (kSeal ++ [32]) = (pre.length : Int) := by
  obtain ⟨h32, _, _⟩ := txt_no hx
  have hlen : (pre ++ kSeal ++ [32] ++ x ++ [10]).length = pre.length + 5 + x.length + 1 := by simp [kSeal]; omega
  have hocc : Lib.occAt (pre ++ kSeal ++ [32] ++ x ++ [10]) (kSeal ++ [32]) pre.length = true := by
    unfold Lib.occAt
    rw [List.isPrefixOf_iff_prefix]
    refine ⟨x ++ [10], ?_⟩
    rw [show pre ++ kSeal ++ [32] ++ x ++ [10] = pre ++ (kSeal ++ [32] ++ (x ++ [10])) by simp]
    exact (List.drop_left' rfl).symm
  have hno : ∀ j, pre.length < j → Lib.occAt (pre ++ kSeal ++ [32] ++ x ++ [10]) (kSeal ++ [32]) j = false := by
    intro j hj
    cases hb : Lib.occAt (pre ++ kSeal ++ [32] ++ x ++ [10]) (kSeal ++ [32]) j with
    | false => rfl
    | true =>
      exfalso
      unfold Lib.occAt at hb
      obtain ⟨t, ht⟩ := List.isPrefixOf_iff_prefix.1 hb
      have h4 : ((pre ++ kSeal ++ [32] ++ x ++ [10]).drop j)[4]? = some 32 := by rw [← ht]; rfl
      rw [List.getElem?_drop] at h4
      obtain ⟨q, rfl⟩ : ∃ q, j = pre.length + 1 + q := ⟨j - pre.length - 1, by omega⟩
      rw [show pre ++ kSeal ++ [32] ++ x ++ [10] = (pre ++ (kSeal ++ [32])) ++ (x ++ [10]) by simp, List.getElem?_append_right (by simp [kSeal])] at h4
      have hm := List.mem_of_getElem? h4
      rcases List.mem_append.1 hm with h | h
      · exact h32 h
      · simp at h
  have key : ∀ n, pre.length < n → Lib.lastOcc (pre ++ kSeal ++ [32] ++ x ++ [10]) (kSeal ++ [32]) n = (pre.length : Int) := by
    intro n
    induction n with
    | zero => intro h; omega
    | succ n ih =>
      intro h
      by_cases e : n = pre.length
      · subst e; exact Lib.lastOcc_hit _ _ _ hocc
      · rw [Lib.lastOcc_miss _ _ _ (hno n (by omega))]
        exact ih (by omega)
  unfold Lib.lastIndex
  rw [if_pos (by rw [hlen]; simp [kSeal]; omega)]
  exact key _ (by rw [hlen]; simp [kSeal]; omega)
/-! ### What ReadManifest answers -/
structure RmOut where
  nm : List UInt8
  ents : List Ent
  line : Nat
  fault : Int
def rmOut (text : List UInt8) : RmOut :=
  if 400000 < text.length then ⟨[], [], 0, 2⟩
  else match rdAll text with
    | (i, none) => ⟨[], [], i, 10⟩
    | (i, some st) => if st.sl = [] then ⟨[], [], i, 10⟩ else if digL st.pre ≠ st.sl then ⟨[], [], 0, 15⟩ else if packFault st.nm st.ents ≠ 0 then ⟨[], [], 0, packFault st.nm st.ents⟩ else ⟨st.nm, st.ents, 0, 0⟩
def RmPost (text : List UInt8) (w : World) (e : Ending) (w' : World) : Prop :=
  ∃ v, e = .returned (.tuple #[.agg #[.string (bstr (rmOut text).nm), v], .int .i64 ((rmOut text).line : Int), .int .i64 (rmOut text).fault]) ∧ (Rp.sl entRp).ok w' (· < w'.heap.size) [v] (rmOut text).ents ∧ Below w.heap.size w w'
end Go.Proofs.YtgfacedfndcgdaaGreatDoor
