/-
  Changes lead from one text to the other one, and back: plain facts.
-/
import Derived.Test.YtofahmdjhpbecaaAppPlain
import Derived.Test.YtofahmdjhpbecaaChg2
namespace Go.Proofs.Ytofahmdjhpbecaa
open Go.RowKit
set_option linter.unusedVariables false
set_option linter.unusedSimpArgs false

theorem changes_lead {a b : List UInt8} (h : chgOk a b = true) :
    madeFault a (changesL (linesL a) (linesL b)) 3 2 = 0 ∧ madeStr a (changesL (linesL a) (linesL b)) 3 2 = b ∧
    madeFault b (changesL (linesL a) (linesL b)) 2 3 = 0 ∧ madeStr b (changesL (linesL a) (linesL b)) 2 3 = a := by
  obtain ⟨h1, h2, h3, h4⟩ := chgOk_of h
  obtain ⟨k3, k2⟩ := changesL_keeps (linesL a) (linesL b)
  have hof := changesL_of (L := fun s => lineOk s = true) (linesL_ok a) (linesL_ok b)
  have hcnt := changesL_cnt (linesL a) (linesL b)
  have hlen := cnt_len (changesL (linesL a) (linesL b)) (fun c hc => ⟨(hof c hc).1, (hof c hc).2.1, (hof c hc).2.2.1⟩)
  have hmany : tooMany (changesL (linesL a) (linesL b)) = false := by
    rw [tooMany, Bool.or_eq_false_iff, decide_eq_false_iff_not, List.any_eq_false]
    refine ⟨by omega, fun c hc => ?_⟩
    rw [decide_eq_true_eq]
    by_cases e : c.kind = 3
    · have := keepL_len_mem 2 hc (by omega)
      rw [k2] at this; omega
    · have := keepL_len_mem 3 hc e
      rw [k3] at this; omega
  have hch : chsFault (changesL (linesL a) (linesL b)) = 0 := chsFault_good _ fun c hc => by
    obtain ⟨g1, g2, g3, g4⟩ := hof c hc
    rw [chFault, if_neg (by omega), if_neg g3, if_pos (List.all_eq_true.2 g4)]
  have f1 : madeFault a (changesL (linesL a) (linesL b)) 3 2 = 0 := made_7 h1 hmany hch k3 (by rw [k2]; exact linesL_ended b) (by rw [k2, linesL_flatten]; exact h2)
  have f2 : madeFault b (changesL (linesL a) (linesL b)) 2 3 = 0 := made_7 h2 hmany hch k2 (by rw [k3]; exact linesL_ended a) (by rw [k3, linesL_flatten]; exact h1)
  exact ⟨f1, by rw [madeStr_good f1, k2, linesL_flatten], f2, by rw [madeStr_good f2, k3, linesL_flatten]⟩
end Go.Proofs.Ytofahmdjhpbecaa
