/- What MulDiv, Fits and fitting answer. -/
import Derived.Test.YtggbflplbblgbaaQ962P0
namespace Go.Proofs.Ytggbflplbblgbaa.Pr
open Go.RowKit Go.Proofs.Ytggbflplbblgbaa.Pr Go.Proofs.YtggbflplbblgbaaW.PrintWords Go.Proofs.YtggbflplbblgbaaW.PrintLast Go.Proofs.YtggbflplbblgbaaW.PrintMore
set_option linter.unusedVariables false
set_option linter.unusedSimpArgs false
theorem QbQ (a : Int) : QaP.f a = some (decide (mdFits a)) := by
 unfold QaP.f
 by_cases h : a ≥ -1152921504606846976
 ·rw [if_pos h]
  by_cases h2 : a ≤ 1152921504606846976
  ·rw [decide_eq_true h2, decide_eq_true (show mdFits a from ⟨h, h2⟩)]
  rw [decide_eq_false h2, decide_eq_false (show ¬ mdFits a from fun x => h2 x.2)]
 rw [if_neg h, decide_eq_false (show ¬ mdFits a from fun x => h x.1)]
theorem Qb4 (a : Int) : QaI.f a = some (decide (mdFits a)) := by
 unfold QaI.f
 by_cases h : a ≥ -1152921504606846976
 ·rw [if_pos h]
  by_cases h2 : a ≤ 1152921504606846976
  ·rw [decide_eq_true h2, decide_eq_true (show mdFits a from ⟨h, h2⟩)]
  rw [decide_eq_false h2, decide_eq_false (show ¬ mdFits a from fun x => h2 x.2)]
 rw [if_neg h, decide_eq_false (show ¬ mdFits a from fun x => h x.1)]
theorem Qda (a : Int) : Qa2.f a = some (if mdFits a then (a, 0) else (0, 3)) := by
 unfold Qa2.f
 rw [QbQ]
 simp only [Option.bind_some]
 by_cases h : mdFits a
 ·rw [decide_eq_true h, if_pos rfl, if_pos h]
 rw [decide_eq_false h, if_neg (by decide), if_neg h]
end Go.Proofs.Ytggbflplbblgbaa.Pr
