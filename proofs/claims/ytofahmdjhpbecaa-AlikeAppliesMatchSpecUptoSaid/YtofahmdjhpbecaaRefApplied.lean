/-
  'Applied' and 'Undone' of the reference.
-/
import Derived.Test.YtofahmdjhpbecaaProg
import Derived.Test.YtofahmdjhpbecaaRefAp
namespace Go.Proofs.Ytofahmdjhpbecaa
open Go.RowKit
set_option linter.unusedVariables false
set_option linter.unusedSimpArgs false

set_option maxRecDepth 100000 in
set_option maxHeartbeats 1000000 in
theorem refApplied_any (t : List UInt8) (v : Value) (l : List Ch) (w : World) (ht2 : t.length ≤ maxLen) (h : (Rp.sl chRp).ok w (· < w.heap.size) [v] l) (hm : (keepL 2 l).flatten.length ≤ 140737488355328) :
    Calls Try.prog 51 #[.string (bstr t), v] w (MadePost t l 3 2 w) := by
  have hc := refApplied0_any t v l 2 3 w ht2 h hm
  go_enter Try.func51, Try.ntmps51
  go_wp2_with fail
  refine hc.mono ?_
  rintro e w1 ⟨rfl, hb⟩
  have HB := Lib.hid hb
  clear hb hc
  obtain ⟨s, hs⟩ : ∃ s, madeStr t l 3 2 = s := ⟨_, rfl⟩
  obtain ⟨f, hf⟩ : ∃ f, madeFault t l 3 2 = f := ⟨_, rfl⟩
  have HP : Hid (MadePost t l 3 2 w (.returned (.tuple #[.string (bstr s), .int .i64 f])) w1) := Lib.hid ⟨by rw [hs, hf], HB.out⟩
  rw [hs, hf]
  clear hs hf
  go_wp2_with fail
  go_ret2
  exact HP.out
set_option maxRecDepth 100000 in
set_option maxHeartbeats 1000000 in
theorem refUndone_any (t : List UInt8) (v : Value) (l : List Ch) (w : World) (ht2 : t.length ≤ maxLen) (h : (Rp.sl chRp).ok w (· < w.heap.size) [v] l) (hm : (keepL 3 l).flatten.length ≤ 140737488355328) :
    Calls Try.prog 53 #[.string (bstr t), v] w (MadePost t l 2 3 w) := by
  have hc := refApplied0_any t v l 3 2 w ht2 h hm
  go_enter Try.func53, Try.ntmps53
  go_wp2_with fail
  refine hc.mono ?_
  rintro e w1 ⟨rfl, hb⟩
  have HB := Lib.hid hb
  clear hb hc
  obtain ⟨s, hs⟩ : ∃ s, madeStr t l 2 3 = s := ⟨_, rfl⟩
  obtain ⟨f, hf⟩ : ∃ f, madeFault t l 2 3 = f := ⟨_, rfl⟩
  have HP : Hid (MadePost t l 2 3 w (.returned (.tuple #[.string (bstr s), .int .i64 f])) w1) := Lib.hid ⟨by rw [hs, hf], HB.out⟩
  rw [hs, hf]
  clear hs hf
  go_wp2_with fail
  go_ret2
  exact HP.out
end Go.Proofs.Ytofahmdjhpbecaa
