/-
  A manifest as it is written, and that it is read as the package: plain words.
-/
import Derived.Test.YtgfacedfndcgdaaGreatDoorManG
import Derived.Lib.ItoaNum
namespace Go.Proofs.YtgfacedfndcgdaaGreatDoor
open Go.RowKit
set_option linter.unusedVariables false
set_option linter.unusedSimpArgs false

/-! ### Numerals -/
theorem dig_of {d : Nat} (h : d < 10) : digSet.contains (UInt8.ofNat (48 + d)) = true ∧ Lib.digitVal (UInt8.ofNat (48 + d)) = some d := by
  have : d = 0 ∨ d = 1 ∨ d = 2 ∨ d = 3 ∨ d = 4 ∨ d = 5 ∨ d = 6 ∨ d = 7 ∨ d = 8 ∨ d = 9 := by omega
  rcases this with rfl | rfl | rfl | rfl | rfl | rfl | rfl | rfl | rfl | rfl <;> exact ⟨rfl, rfl⟩
theorem dec_snoc : ∀ (l : List UInt8) (acc n d : Nat) (b : UInt8), Lib.decFrom acc l = some n → Lib.digitVal b = some d → Lib.decFrom acc (l ++ [b]) = some (n * 10 + d)
  | [], acc, n, d, b, h, hb => by
    have : acc = n := by simpa [Lib.decFrom] using h
    subst this
    simp [Lib.decFrom, hb]
  | c :: l, acc, n, d, b, h, hb => by
    rw [List.cons_append]
    unfold Lib.decFrom at h ⊢
    cases hc : Lib.digitVal c with
    | none => rw [hc] at h; cases h
    | some e => rw [hc] at h; exact dec_snoc l _ n d b h hb
theorem dd_small {u : Nat} (h : u < 10) : Lib.decDigits u = [UInt8.ofNat (48 + u)] := by rw [Lib.decDigits, dif_pos h]
theorem dd_big {u : Nat} (h : ¬ u < 10) : Lib.decDigits u = Lib.decDigits (u / 10) ++ [UInt8.ofNat (48 + u % 10)] := by rw [Lib.decDigits, dif_neg h]
theorem dd_facts : ∀ (k u : Nat), u < 10 ^ (k + 1) → (Lib.decDigits u).all (digSet.contains ·) = true ∧ Lib.decFrom 0 (Lib.decDigits u) = some u ∧ 1 ≤ (Lib.decDigits u).length ∧ (Lib.decDigits u).length ≤ k + 1 ∧ (1 ≤ u → (Lib.decDigits u).head? ≠ some 48)
  | 0, u, h => by
    have h : u < 10 := by simpa using h
    obtain ⟨h1, h2⟩ := dig_of h
    rw [dd_small h]
    refine ⟨by simp only [List.all_cons, List.all_nil, Bool.and_true]; exact h1, by rw [Lib.decFrom, h2]; show Lib.decFrom (0 * 10 + u) [] = some u; rw [Lib.decFrom]; congr 1; omega, by simp, by simp, fun hu e => ?_⟩
    simp only [List.head?_cons, Option.some.injEq] at e
    rw [e] at h2
    have : some 0 = some u := h2
    injection this with this
    omega
  | k + 1, u, h => by
    by_cases h10 : u < 10
    · have := dd_facts 0 u (by simpa using h10)
      exact ⟨this.1, this.2.1, this.2.2.1, by have := this.2.2.2.1; omega, this.2.2.2.2⟩
    · have hu : u / 10 < 10 ^ (k + 1) := by rw [Nat.pow_succ] at h; omega
      obtain ⟨a1, a2, a3, a4, a5⟩ := dd_facts k (u / 10) hu
      obtain ⟨h1, h2⟩ := dig_of (Nat.mod_lt u (show 0 < 10 by decide))
      rw [dd_big h10]
      refine ⟨by rw [List.all_append, a1]; simp only [List.all_cons, List.all_nil, Bool.and_true, Bool.true_and]; exact h1, ?_, by simp, by simp; omega, fun _ e => ?_⟩
      · rw [dec_snoc _ _ _ _ _ a2 h2]
        congr 1; omega
      · rw [List.head?_append] at e
        have := a5 (by omega)
        cases hh : (Lib.decDigits (u / 10)).head? with
        | none =>
          cases hd : Lib.decDigits (u / 10) with
          | nil => rw [hd] at a3; simp at a3
          | cons _ _ => rw [hd] at hh; simp at hh
        | some x => rw [hh] at e this; exact this e
theorem itoa_num {n : Int} (h0 : 0 ≤ n) (h1 : n ≤ 100000) : numB (Lib.itoa n) = true ∧ numV (Lib.itoa n) = n := by
  obtain ⟨u, rfl⟩ : ∃ u : Nat, n = (u : Int) := ⟨n.toNat, by omega⟩
  have e : Lib.itoa (u : Int) = Lib.decDigits u := by unfold Lib.itoa; rw [if_neg (by omega), Int.toNat_natCast]
  rw [e]
  obtain ⟨a1, a2, a3, a4, a5⟩ := dd_facts 8 u (by have : (10 : Nat) ^ (8 + 1) = 1000000000 := by decide
                                                  omega)
  have hb : numB (Lib.decDigits u) = true := by
    unfold numB
    rw [decide_eq_true a3, decide_eq_true a4, a1]
    by_cases hu : 1 ≤ u
    · rw [decide_eq_false (a5 hu)]; rfl
    · have : u = 0 := by omega
      subst this
      rw [dd_small (by decide)]; rfl
  refine ⟨hb, ?_⟩
  obtain ⟨c, r, hcr⟩ : ∃ c r, Lib.decDigits u = c :: r := by
    cases hd : Lib.decDigits u with
    | nil => rw [hd] at a3; simp at a3
    | cons c r => exact ⟨c, r, rfl⟩
  have hc : digSet.contains c = true := by rw [hcr, List.all_cons, Bool.and_eq_true] at a1; exact a1.1
  obtain ⟨_, _, _, e45, e43⟩ := dig_val c hc
  unfold numV
  rw [hcr] at a2 ⊢
  unfold Lib.atoi
  dsimp only
  rw [if_neg (by simpa using e45), if_neg (by simpa using e43)]
  unfold Lib.decNat
  rw [if_neg (by simp), a2]
  rfl
/-! ### The text -/
def entT (e : Ent) : List UInt8 := e.digest ++ 32 :: (Lib.itoa e.size ++ 32 :: e.path)
def manBody (n : List UInt8) (l : List Ent) : List UInt8 := (kPack ++ [32] ++ n ++ [10]) ++ l.flatMap fun e => entT e ++ [10]
def manText (n : List UInt8) (l : List Ent) : List UInt8 := manBody n l ++ kSeal ++ [32] ++ digL (manBody n l) ++ [10]
theorem isNm_txt {n : List UInt8} (h : isNm n = true) : txtB n = true := by
  have hl := nm_len h
  unfold isNm at h
  rw [Bool.and_eq_true, Bool.and_eq_true] at h
  have hall := h.2
  rw [Bool.and_eq_true] at hall
  unfold txtB isRowB
  rw [Bool.and_eq_true, Bool.and_eq_true, decide_eq_true_iff, decide_eq_true_iff]
  refine ⟨?_, hl.1, Int.le_refl _⟩
  rw [List.all_eq_true]
  intro x hx
  have h2 := List.all_eq_true.1 hall.2 x hx
  rw [nmSet_is] at h2
  unfold rowByte
  simp only [Bool.or_eq_true, Bool.and_eq_true, decide_eq_true_iff] at h2 ⊢
  omega
theorem isDig_txt {d : List UInt8} (h : isDig d = true) : txtB d = true := by
  have hl := isDig_len h
  unfold isDig at h
  rw [Bool.and_eq_true, List.all_eq_true] at h
  unfold txtB isRowB
  rw [Bool.and_eq_true, Bool.and_eq_true, decide_eq_true_iff, decide_eq_true_iff, List.all_eq_true]
  refine ⟨fun x hx => ?_, by omega, Int.le_refl _⟩
  have h2 : x ∈ hexSet := by simpa using h.2 x hx
  simp only [hexSet, List.mem_cons, List.not_mem_nil, or_false] at h2
  rcases h2 with rfl | rfl | rfl | rfl | rfl | rfl | rfl | rfl | rfl | rfl | rfl | rfl | rfl | rfl | rfl | rfl <;> rfl
theorem isPath_txt {p : List UInt8} (h : isPathB p = true) : txtB p = true := by
  unfold isPathB at h
  rw [Bool.and_eq_true] at h
  have h := h.1
  unfold isRowB at h
  rw [Bool.and_eq_true, Bool.and_eq_true, decide_eq_true_iff] at h
  unfold txtB isRowB
  rw [Bool.and_eq_true, Bool.and_eq_true, decide_eq_true_iff, decide_eq_true_iff]
  exact ⟨h.1, h.2.1, Int.le_refl _⟩
/-- What a right package's entries are. -/
def EOk (e : Ent) : Prop := txtB e.path = true ∧ (0 ≤ e.size ∧ e.size ≤ 100000) ∧ txtB e.digest = true
theorem pack_ok {n : List UInt8} {l : List Ent} (h : packFault n l = 0) : isNm n = true ∧ l.length ≤ 500 ∧ ∀ e ∈ l, EOk e := by
  unfold packFault at h
  split at h
  · exact absurd h (by decide)
  rename_i hn
  have hn : isNm n = true := by cases e : isNm n with | true => rfl | false => exact absurd e hn
  unfold entsFault at h
  split at h
  · exact absurd h (by decide)
  rename_i hl
  refine ⟨hn, by omega, fun e he => ?_⟩
  obtain ⟨i, hi, rfl⟩ := List.getElem_of_mem he
  have hf := firstF_all h i hi
  have a1 : isPathB l[i].path = true := by
    cases e : isPathB l[i].path with
    | true => rfl
    | false => rw [entF_1 hi e] at hf; exact absurd hf (by decide)
  have a2 : withinB l[i].size 0 100000 = true := by
    cases e : withinB l[i].size 0 100000 with
    | true => rfl
    | false => rw [entF_2 hi a1 e] at hf; exact absurd hf (by decide)
  have a3 : isDig l[i].digest = true := by
    cases e : isDig l[i].digest with
    | true => rfl
    | false => rw [entF_3 hi a1 a2 e] at hf; exact absurd hf (by decide)
  exact ⟨isPath_txt a1, of_decide_eq_true a2, isDig_txt a3⟩
theorem entT_line {e : Ent} (h : EOk e) (st : RS) (pre : List UInt8) (hs : st.sl = []) : lineF false pre st (entT e) = some { st with ents := st.ents ++ [e] } ∧ (10 : UInt8) ∉ entT e := by
  obtain ⟨h1, h2, h3⟩ := h
  obtain ⟨hb, hv⟩ := itoa_num h2.1 h2.2
  have hbt := num_txt hb
  have e3 : sg (entT e) = [e.digest, Lib.itoa e.size, e.path] := by
    unfold entT
    rw [sg_cons (txt_no h3).1, sg_cons (txt_no hbt).1, sg_one (txt_no h1).1]
  refine ⟨?_, ?_⟩
  · rw [lf_three hs e3 h3 h1, if_pos hb, hv]
  · unfold entT
    simp only [List.mem_append, List.mem_cons]
    rintro (h | h | h | h | h)
    · exact (txt_no h3).2.1 h
    · exact absurd h (by decide)
    · exact (txt_no hbt).2.1 h
    · exact absurd h (by decide)
    · exact (txt_no h1).2.1 h
theorem ents_read_all {text : List UInt8} {tail : List UInt8} : ∀ (l : List Ent) (i : Nat) (pre : List UInt8) (st : RS), (∀ e ∈ l, EOk e) → st.sl = [] → 2 ≤ i → At text i pre st ((l.flatMap fun e => entT e ++ [10]) ++ tail) → At text (i + l.length) (pre ++ l.flatMap fun e => entT e ++ [10]) { st with ents := st.ents ++ l } tail
  | [], i, pre, st, _, _, _, h => by
    have e : ({ st with ents := st.ents ++ [] } : RS) = st := by cases st; simp
    rw [e]
    simpa using h
  | e :: l, i, pre, st, he, hs, hi, h => by
    obtain ⟨h1, h2⟩ := entT_line (he e (List.mem_cons_self ..)) st pre hs
    have hd : decide (i = 1) = false := decide_eq_false (by omega)
    have h' : At text i pre st (entT e ++ 10 :: ((l.flatMap fun e => entT e ++ [10]) ++ tail)) := by
      have : ((e :: l).flatMap fun e => entT e ++ [10]) ++ tail = entT e ++ 10 :: ((l.flatMap fun e => entT e ++ [10]) ++ tail) := by simp
      rwa [this] at h
    have h3 := h'.next (st' := { st with ents := st.ents ++ [e] }) h2 (by rw [hd]; exact h1)
    have h4 := ents_read_all l (i + 1) _ { st with ents := st.ents ++ [e] } (fun x hx => he x (List.mem_cons_of_mem _ hx)) hs (by omega) h3
    have e1 : i + (e :: l).length = i + 1 + l.length := by simp; omega
    have e2 : pre ++ ((e :: l).flatMap fun e => entT e ++ [10]) = pre ++ entT e ++ [10] ++ l.flatMap fun e => entT e ++ [10] := by simp
    have e3 : st.ents ++ (e :: l) = st.ents ++ [e] ++ l := by simp
    rw [e1, e2, e3]
    exact h4
theorem hexB_mem (m : Int) : hexSet.contains (hexB m) = true := by
  have h : (m % 16).toNat < 16 := by omega
  unfold hexB hexSet
  revert h
  generalize (m % 16).toNat = k
  intro h
  have : ∀ k < 16, ([48, 49, 50, 51, 52, 53, 54, 55, 56, 57, 97, 98, 99, 100, 101, 102] : List UInt8).contains (([48, 49, 50, 51, 52, 53, 54, 55, 56, 57, 97, 98, 99, 100, 101, 102] : List UInt8).getD k 0) = true := by decide
  exact this k h
theorem isDig_digL (t : List UInt8) : isDig (digL t) = true := by
  unfold isDig
  rw [digL_len, decide_eq_true rfl, Bool.true_and, List.all_eq_true]
  intro c hc
  unfold digL hexL at hc
  obtain ⟨i, _, rfl⟩ := List.mem_map.1 hc
  exact hexB_mem _
theorem digL_txt (t : List UInt8) : txtB (digL t) = true := isDig_txt (isDig_digL t)
/-- A manifest is read as its package. -/
theorem man_reads {n : List UInt8} {l : List Ent} (h : packFault n l = 0) (hl : ¬ 400000 < (manText n l).length) : rmOut (manText n l) = ⟨n, l, 0, 0⟩ := by
  obtain ⟨hn, _, he⟩ := pack_ok h
  have hnt := isNm_txt hn
  have hdt := digL_txt (manBody n l)
  have e0 : manText n l = (kPack ++ 32 :: n) ++ 10 :: ((l.flatMap fun e => entT e ++ [10]) ++ ((kSeal ++ 32 :: digL (manBody n l)) ++ 10 :: [])) := by
    have key : ∀ d : List UInt8, manBody n l ++ kSeal ++ [32] ++ d ++ [10] = (kPack ++ 32 :: n) ++ 10 :: ((l.flatMap fun e => entT e ++ [10]) ++ ((kSeal ++ 32 :: d) ++ 10 :: [])) := fun d => by
      unfold manBody
      simp [List.append_assoc]
    exact key _
  have a0 := At.start (manText n l)
  rw [e0] at a0
  have hsg : sg (kPack ++ 32 :: n) = [kPack, n] := sg_of_two (by decide) (txt_no hnt).1
  have h10 : (10 : UInt8) ∉ kPack ++ 32 :: n := by
    simp only [List.mem_append, List.mem_cons]
    rintro (h | h | h)
    · exact absurd h (by decide)
    · exact absurd h (by decide)
    · exact (txt_no hnt).2.1 h
  have a1 := a0.next (st' := { st0 with nm := n }) h10 (by rw [show decide (1 = 1) = true from rfl, lf_first rfl hsg hnt, if_pos rfl])
  have a2 := ents_read_all l 2 _ _ he rfl (Nat.le_refl _) a1
  have hsg2 : sg (kSeal ++ 32 :: digL (manBody n l)) = [kSeal, digL (manBody n l)] := sg_of_two (by decide) (txt_no hdt).1
  have h102 : (10 : UInt8) ∉ kSeal ++ 32 :: digL (manBody n l) := by
    simp only [List.mem_append, List.mem_cons]
    rintro (h | h | h)
    · exact absurd h (by decide)
    · exact absurd h (by decide)
    · exact (txt_no hdt).2.1 h
  have hd : decide (2 + l.length = 1) = false := decide_eq_false (by omega)
  have a3 := a2.next h102 (by rw [hd, lf_two rfl hsg2 hdt, if_pos rfl])
  have a4 := a3.done
  rw [← e0] at a4
  have hb : [] ++ (kPack ++ 32 :: n) ++ [10] ++ (l.flatMap fun e => entT e ++ [10]) = manBody n l := by unfold manBody; simp [List.append_assoc]
  rw [hb] at a4
  have hne : digL (manBody n l) ≠ [] := (txt_no hdt).2.2
  exact rm_ok hl a4 hne rfl h
end Go.Proofs.YtgfacedfndcgdaaGreatDoor
