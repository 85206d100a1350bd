/- What MulDiv, Fits and fitting answer. -/
import Derived.Test.YtgnmhfjfefgbfaaQ5C0P0
import Derived.Test.YtgnmhfjfefgbfaaQ5C0P5
namespace Go.Proofs.Ytgnmhfjfefgbfaa.Pr
open Go.RowKit Go.Proofs.Ytgnmhfjfefgbfaa.Pr Go.Proofs.YtgnmhfjfefgbfaaW.PrintWords Go.Proofs.YtgnmhfjfefgbfaaW.PrintLast Go.Proofs.YtgnmhfjfefgbfaaW.PrintMore
set_option linter.unusedVariables false
set_option linter.unusedSimpArgs false
theorem Qex (a : Int) : QbE.f a = some (decide (mdFits a)) := by
 unfold QbE.f
 by_cases h : a ≥ -1152921504606846976
 ·rw [if_pos h]
  by_cases h2 : a ≤ 1152921504606846976
  ·rw [decide_eq_true h2, decide_eq_true (show mdFits a from ⟨h, h2⟩)]
  rw [decide_eq_false h2, decide_eq_false (show ¬ mdFits a from fun x => h2 x.2)]
 rw [if_neg h, decide_eq_false (show ¬ mdFits a from fun x => h x.1)]
theorem QeV (a : Int) : QbK.f a = some (if mdFits a then (a, 0) else (0, 3)) := by
 unfold QbK.f
 rw [Qex]
 simp only [Option.bind_some]
 by_cases h : mdFits a
 ·rw [decide_eq_true h, if_pos rfl, if_pos h]
 rw [decide_eq_false h, if_neg (by decide), if_neg h]
theorem md_eq (a b c m : Int) : QaK.f a b c m = some (if mdFits a ∧ mdFits b ∧ mdFits c ∧ 1 ≤ m ∧ m ≤ 5 then (if c = 0 then (0, 4) else mdRes a b c m) else (0, 2)) := by
 unfold QaK.f
 split
 ·split <;> rfl
 rfl
end Go.Proofs.Ytgnmhfjfefgbfaa.Pr
