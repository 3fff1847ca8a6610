/-
  The digests of leaves and nodes, by both packages.
-/
import Derived.Test.YtnnoolemmnailaaDoorTreePlain
namespace Go.Proofs.YtnnoolemmnailaaDoor
open Go.RowKit
set_option linter.unusedVariables false
set_option linter.unusedSimpArgs false

theorem bstr_add (a b : List UInt8) : bstr a ++ bstr b = bstr (a ++ b) := by
  apply str_inj
  rw [ByteArray.toList_eq, ByteArray.toList_eq]
  simp [bstr, ByteArray.data_append]
theorem node_str (a b : List UInt8) : ({ data := #[110, 111, 100, 101, 32] } : ByteArray) ++ bstr a ++ { data := #[32] } ++ bstr b = bstr ([110, 111, 100, 101, 32] ++ a ++ [32] ++ b) := by
  rw [← bstr_add, ← bstr_add, ← bstr_add]; rfl
theorem leaf_str (a b : List UInt8) : ({ data := #[108, 101, 97, 102, 32] } : ByteArray) ++ bstr a ++ { data := #[32] } ++ bstr b = bstr ([108, 101, 97, 102, 32] ++ a ++ [32] ++ b) := by
  rw [← bstr_add, ← bstr_add, ← bstr_add]; rfl
set_option maxRecDepth 100000 in
set_option maxHeartbeats 400000 in
theorem node_any (a b : List UInt8) (w : World) (ha : a.length ≤ 100000) (hb : b.length ≤ 100000) :
    Calls Tryd.prog 71 #[.string (bstr a), .string (bstr b)] w fun e w' => e = .returned (.string (bstr (nodeD a b))) ∧ Below w.heap.size w w' := by
  have hc := cdigest_any ([110, 111, 100, 101, 32] ++ a ++ [32] ++ b) w (by simp; omega)
  rw [← node_str] at hc
  have s1 : (bstr a).size = a.length := rfl
  have s2 : (bstr b).size = b.length := rfl
  have g1 : ¬ 9223372036854775807 < 5 + (bstr a).size := by omega
  have g2 : ¬ 9223372036854775807 < 5 + (bstr a).size + 1 := by omega
  have g3 : ¬ 9223372036854775807 < 5 + (bstr a).size + 1 + (bstr b).size := by omega
  clear s1 s2 ha hb
  go_enter Tryd.func71, Tryd.ntmps71
  go_wp2_with fail
  refine hc.mono ?_
  rintro e w1 ⟨rfl, hb1⟩
  have HB := Lib.hid hb1
  clear hb1 hc
  go_wp2_with fail
  go_ret
  exact ⟨by simp only [nodeD, leafD]; simp, HB.out⟩
set_option maxRecDepth 100000 in
set_option maxHeartbeats 400000 in
theorem refNode_any (a b : List UInt8) (w : World) (ha : a.length ≤ 100000) (hb : b.length ≤ 100000) :
    Calls Tryd.prog 79 #[.string (bstr a), .string (bstr b)] w fun e w' => e = .returned (.string (bstr (nodeD a b))) ∧ Below w.heap.size w w' := by
  have hc := rdigest_any ([110, 111, 100, 101, 32] ++ a ++ [32] ++ b) w (by simp; omega)
  rw [← node_str] at hc
  have s1 : (bstr a).size = a.length := rfl
  have s2 : (bstr b).size = b.length := rfl
  have g1 : ¬ 9223372036854775807 < 5 + (bstr a).size := by omega
  have g2 : ¬ 9223372036854775807 < 5 + (bstr a).size + 1 := by omega
  have g3 : ¬ 9223372036854775807 < 5 + (bstr a).size + 1 + (bstr b).size := by omega
  clear s1 s2 ha hb
  go_enter Tryd.func79, Tryd.ntmps79
  go_wp2_with fail
  refine hc.mono ?_
  rintro e w1 ⟨rfl, hb1⟩
  have HB := Lib.hid hb1
  clear hb1 hc
  go_wp2_with fail
  go_ret
  exact ⟨by simp only [nodeD, leafD]; simp, HB.out⟩
set_option maxRecDepth 100000 in
set_option maxHeartbeats 400000 in
theorem leafDigest_any (x : Leaf) (w : World) (ha : x.key.length ≤ 100000) (hb : x.digest.length ≤ 100000) :
    Calls Tryd.prog 69 #[.agg #[.string (bstr x.key), .string (bstr x.digest)]] w fun e w' => e = .returned (.string (bstr (leafD x))) ∧ Below w.heap.size w w' := by
  have HAL := Lib.hid ((Below.refl w.heap.size w).alloc (Nat.le_refl _) (.cells #[.string (bstr x.key), .string (bstr x.digest)] 33))
  have hkb := Blk.new w 33 [.string (bstr x.key), .string (bstr x.digest)]
  have k0 : _ = some (Value.string (bstr x.key)) := hkb.cell 0
  have k1 : _ = some (Value.string (bstr x.digest)) := hkb.cell 1
  clear hkb
  have hc := cdigest_any ([108, 101, 97, 102, 32] ++ x.key ++ [32] ++ x.digest) (w.alloc (.cells #[.string (bstr x.key), .string (bstr x.digest)] 33)) (by simp; omega)
  rw [← leaf_str] at hc
  have s1 : (bstr x.key).size = x.key.length := rfl
  have s2 : (bstr x.digest).size = x.digest.length := rfl
  have g1 : ¬ 9223372036854775807 < 5 + (bstr x.key).size := by omega
  have g2 : ¬ 9223372036854775807 < 5 + (bstr x.key).size + 1 := by omega
  have g3 : ¬ 9223372036854775807 < 5 + (bstr x.key).size + 1 + (bstr x.digest).size := by omega
  clear s1 s2 ha hb
  go_enter Tryd.func69, Tryd.ntmps69
  go_wp2_with fail
  refine hc.mono ?_
  rintro e w1 ⟨rfl, hb1⟩
  have HB := Lib.hid (HAL.out.trans (hb1.mono HAL.out.size))
  clear hb1 hc
  go_wp2_with fail
  go_ret
  exact ⟨by simp only [nodeD, leafD]; simp, HB.out⟩
set_option maxRecDepth 100000 in
set_option maxHeartbeats 400000 in
theorem refLeaf_any (x : Leaf) (w : World) (ha : x.key.length ≤ 100000) (hb : x.digest.length ≤ 100000) :
    Calls Tryd.prog 78 #[.agg #[.string (bstr x.key), .string (bstr x.digest)]] w fun e w' => e = .returned (.string (bstr (leafD x))) ∧ Below w.heap.size w w' := by
  have HAL := Lib.hid ((Below.refl w.heap.size w).alloc (Nat.le_refl _) (.cells #[.string (bstr x.key), .string (bstr x.digest)] 33))
  have hkb := Blk.new w 33 [.string (bstr x.key), .string (bstr x.digest)]
  have k0 : _ = some (Value.string (bstr x.key)) := hkb.cell 0
  have k1 : _ = some (Value.string (bstr x.digest)) := hkb.cell 1
  clear hkb
  have hc := rdigest_any ([108, 101, 97, 102, 32] ++ x.key ++ [32] ++ x.digest) (w.alloc (.cells #[.string (bstr x.key), .string (bstr x.digest)] 33)) (by simp; omega)
  rw [← leaf_str] at hc
  have s1 : (bstr x.key).size = x.key.length := rfl
  have s2 : (bstr x.digest).size = x.digest.length := rfl
  have g1 : ¬ 9223372036854775807 < 5 + (bstr x.key).size := by omega
  have g2 : ¬ 9223372036854775807 < 5 + (bstr x.key).size + 1 := by omega
  have g3 : ¬ 9223372036854775807 < 5 + (bstr x.key).size + 1 + (bstr x.digest).size := by omega
  clear s1 s2 ha hb
  go_enter Tryd.func78, Tryd.ntmps78
  go_wp2_with fail
  refine hc.mono ?_
  rintro e w1 ⟨rfl, hb1⟩
  have HB := Lib.hid (HAL.out.trans (hb1.mono HAL.out.size))
  clear hb1 hc
  go_wp2_with fail
  go_ret
  exact ⟨by simp only [nodeD, leafD]; simp, HB.out⟩
end Go.Proofs.YtnnoolemmnailaaDoor
