/- What MulDiv, Fits and fitting answer. -/
import Derived.Test.YtgnmhfjfefgbfaaQ10EP0
namespace Go.Proofs.Ytgnmhfjfefgbfaa.Pr
open Go.RowKit Go.Proofs.Ytgnmhfjfefgbfaa.Pr Go.Proofs.YtgnmhfjfefgbfaaW.PrintWords Go.Proofs.YtgnmhfjfefgbfaaW.PrintLast Go.Proofs.YtgnmhfjfefgbfaaW.PrintMore
set_option linter.unusedVariables false
set_option linter.unusedSimpArgs false
theorem QdX (a : Int) : Qbf.f a = some (decide (mdFits a)) := by
 unfold Qbf.f
 by_cases h : a ≥ -1152921504606846976
 ·rw [if_pos h]
  by_cases h2 : a ≤ 1152921504606846976
  ·rw [decide_eq_true h2, decide_eq_true (show mdFits a from ⟨h, h2⟩)]
  rw [decide_eq_false h2, decide_eq_false (show ¬ mdFits a from fun x => h2 x.2)]
 rw [if_neg h, decide_eq_false (show ¬ mdFits a from fun x => h x.1)]
theorem Qee (a : Int) : Qbj.f a = some (if mdFits a then (a, 0) else (0, 3)) := by
 unfold Qbj.f
 rw [QdX]
 simp only [Option.bind_some]
 by_cases h : mdFits a
 ·rw [decide_eq_true h, if_pos rfl, if_pos h]
 rw [decide_eq_false h, if_neg (by decide), if_neg h]
end Go.Proofs.Ytgnmhfjfefgbfaa.Pr
