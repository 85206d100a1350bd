/- What MulDiv, Fits and fitting answer. -/
import Derived.Test.YtaembbndjpebhaaQ974P0
namespace Go.Proofs.Ytaembbndjpebhaa.Pr
open Go.RowKit Go.Proofs.Ytaembbndjpebhaa.Pr Go.Proofs.YtaembbndjpebhaaW.PrintWords Go.Proofs.YtaembbndjpebhaaW.PrintLast Go.Proofs.YtaembbndjpebhaaW.PrintMore
set_option linter.unusedVariables false
set_option linter.unusedSimpArgs false
theorem QcE (a : Int) : Qa7.f a = some (decide (mdFits a)) := by
 unfold Qa7.f
 by_cases h : a ≥ -1152921504606846976
 ·rw [if_pos h]
  by_cases h2 : a ≤ 1152921504606846976
  ·rw [decide_eq_true h2, decide_eq_true (show mdFits a from ⟨h, h2⟩)]
  rw [decide_eq_false h2, decide_eq_false (show ¬ mdFits a from fun x => h2 x.2)]
 rw [if_neg h, decide_eq_false (show ¬ mdFits a from fun x => h x.1)]
theorem md_eq (a b c m : Int) : QaA.f a b c m = some (if mdFits a ∧ mdFits b ∧ mdFits c ∧ 1 ≤ m ∧ m ≤ 5 then (if c = 0 then (0, 4) else mdRes a b c m) else (0, 2)) := by
 unfold QaA.f
 split
 ·split <;> rfl
 rfl
end Go.Proofs.Ytaembbndjpebhaa.Pr
