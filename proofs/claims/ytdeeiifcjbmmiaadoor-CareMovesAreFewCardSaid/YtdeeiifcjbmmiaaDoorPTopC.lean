/-
  Places of package care.
-/
import Derived.Test.YtdeeiifcjbmmiaaDoorLoadP
import Derived.Test.YtdeeiifcjbmmiaaDoorPlaces
namespace Go.Proofs.YtdeeiifcjbmmiaaDoor
open Go.RowKit
set_option linter.unusedVariables false
set_option linter.unusedSimpArgs false

theorem names_one {w : World} {b : Nat} {t : List UInt8} (h : Blk w b 9 [.string (bstr t)]) (ht : t.length ≤ maxLen) : namesRp.ok w (· < w.heap.size) [.slice (some ⟨b, 0, none⟩) 1 1] [t] := by
  refine ⟨some ⟨b, 0, none⟩, 1, rfl, Nat.le_refl 1, (by decide : (1 : Nat) ≤ maxLen), (fun e => by cases e), fun k hk => ?_⟩
  have hk0 : k = 0 := by have : k < 1 := hk; omega
  subst hk0
  refine ⟨⟨b, 0, none⟩, [.string (bstr t)], rfl, h.lt, ⟨rfl, by rw [show ([t].map bstr)[0] = bstr t from rfl, bstr_size]; exact ht⟩, fun j u hu => ?_⟩
  cases j with
  | zero =>
    injection hu with hu
    subst hu
    exact h.cell 0
  | succ j => cases hu
theorem ldF_1 {s : List Site} {its : List (List UInt8)} {many : Int} (h : sitesFault s ≠ 0) : ldFault s its many = sitesFault s := if_pos h
theorem ldF_2 {s : List Site} {its : List (List UInt8)} {many : Int} (h : sitesFault s = 0) : ldFault s its many = itemsFault its many := by rw [ldFault, if_neg (by rw [h]; decide)]
theorem PTPost.good {s : List Site} {item : List UInt8} {many : Int} {M : Nat} {w w0 w' : World} {v : Value} (hs : SOk s) (h : ldFault s [item] many = 0) (hM : many.toNat = M) (hO : w'.ownsRow w0.heap.size 9 1 v (plL s item M).length ((plL s item M).map fun t => .string (bstr t))) (hb : Below w.heap.size w w') : PTPost s item many w (.returned (.tuple #[v, .int .i64 0])) w' :=
  ⟨_, by rw [h], by
    rw [plT, if_pos h, hM]
    exact names_of_own hO (fun x hx => by obtain ⟨y, hy, rfl⟩ := plL_mem hs hx; have := hs.nm y hy; unfold maxLen; omega), hb⟩
set_option maxRecDepth 100000 in
set_option maxHeartbeats 4000000 in
theorem placesTop_any (v : Value) (s : List Site) (item : List UInt8) (many : Int) (w : World) (h0 : (Rp.sl siteRp).ok w (· < w.heap.size) [v] s) (hi : item.length ≤ maxLen) :
    Calls Tryd.prog 8 #[v, .string (bstr item), .int .i64 many] w (PTPost s item many w) := by
  have H0 := Lib.hid h0
  clear h0
  go_enter Tryd.func8, Tryd.ntmps8
  go_wp2_with fail
  refine (checkSites_any v s w H0.out).mono ?_
  rintro e w1 ⟨rfl, hb⟩
  have HB1 := Lib.hid hb
  clear hb
  by_cases ha : sitesFault s = 0
  case neg =>
    have HF : Hid (ldFault s [item] many = sitesFault s) := Lib.hid (ldF_1 ha)
    have HN := Lib.hid ha
    have hn : (sitesFault s != 0) = true := by simpa using ha
    clear ha
    generalize sitesFault s = ff at *
    go_wp2_with fail
    go_ret2
    exact PTPost.bad HF.out HN.out HB1.out
  have HOK := Lib.hid (sok_of ha)
  have HF2 := Lib.hid (ldF_2 (its := [item]) (many := many) ha)
  rw [ha]
  clear ha
  have HBK := Lib.hid (Blk.new w1 9 [.string (bstr item)])
  have HBA := Lib.hid (HB1.out.alloc HB1.out.size (.cells #[.string (bstr item)] 9))
  have H2 := Lib.hid (Rp.ext _ H0.out HBA.out)
  go_wp2_with fail
  refine (checkItems_any _ [item] many _ (names_one HBK.out hi)).mono ?_
  rintro e w2 ⟨rfl, hb⟩
  have HB2 := Lib.hid (below_tr2 HBA.out hb HBA.out.size)
  clear hb HBA HBK HB1
  by_cases ha : itemsFault [item] many = 0
  case neg =>
    have HF : Hid (ldFault s [item] many = itemsFault [item] many) := HF2
    have HN := Lib.hid ha
    have hn : (itemsFault [item] many != 0) = true := by simpa using ha
    clear ha
    generalize itemsFault [item] many = ff at *
    go_wp2_with fail
    go_ret2
    exact PTPost.bad HF.out HN.out HB2.out
  have HF : Hid (ldFault s [item] many = 0) := Lib.hid (HF2.out.trans ha)
  have hok := items_ok ha
  have hnm := nm_len40 (hok.2.2.1 item (List.mem_singleton.2 rfl))
  obtain ⟨M, rfl⟩ : ∃ M : Nat, many = (M : Int) := ⟨many.toNat, by omega⟩
  rw [ha]
  clear ha
  have hm1 : 1 ≤ M := by omega
  have hm2 : M ≤ 50 := by omega
  clear hok
  go_wp2_with fail
  refine (places_any v s item M w2 (Rp.ext _ H0.out HB2.out) HOK.out.nm HOK.out.rise HOK.out.pos HOK.out.few hm1 hm2 (by omega)).mono ?_
  rintro e w3 ⟨v3, rfl, hO, hb⟩
  have HP := Lib.hid (PTPost.good HOK.out HF.out (Int.toNat_natCast M) hO (HB2.out.trans (hb.mono HB2.out.size)))
  clear hO hb
  go_wp2_with fail
  go_ret2
  exact HP.out
end Go.Proofs.YtdeeiifcjbmmiaaDoor
