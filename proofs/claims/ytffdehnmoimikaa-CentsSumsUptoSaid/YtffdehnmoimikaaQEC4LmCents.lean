/- What the functions of package cents and of its reference compute, as plain numbers. No condition but those that each theorem names. -/
import Derived.Test.YtffdehnmoimikaaQEC4P0
namespace Go.Proofs.Ytffdehnmoimikaa.Pr
open Go.RowKit Go.Proofs.Ytffdehnmoimikaa.Pr Go.Proofs.YtffdehnmoimikaaW.PrintWords Go.Proofs.YtffdehnmoimikaaW.PrintLast Go.Proofs.YtffdehnmoimikaaW.PrintMore
set_option linter.unusedVariables false
set_option linter.unusedSimpArgs false
theorem fits_eq (a : Int) : cents_Fits.f a = some (decide (mdFits a)) := by
  unfold cents_Fits.f
  by_cases h : a ≥ -1152921504606846976
  · rw [if_pos h]
    by_cases h2 : a ≤ 1152921504606846976
    · rw [decide_eq_true h2, decide_eq_true (show mdFits a from ⟨h, h2⟩)]
    · rw [decide_eq_false h2, decide_eq_false (show ¬ mdFits a from fun x => h2 x.2)]
  · rw [if_neg h, decide_eq_false (show ¬ mdFits a from fun x => h x.1)]
theorem rfits_eq (a : Int) : contangoref01_Fits.f a = some (decide (mdFits a)) := by
  unfold contangoref01_Fits.f
  by_cases h : a ≥ -1152921504606846976
  · rw [if_pos h]
    by_cases h2 : a ≤ 1152921504606846976
    · rw [decide_eq_true h2, decide_eq_true (show mdFits a from ⟨h, h2⟩)]
    · rw [decide_eq_false h2, decide_eq_false (show ¬ mdFits a from fun x => h2 x.2)]
  · rw [if_neg h, decide_eq_false (show ¬ mdFits a from fun x => h x.1)]
theorem fitting_eq (a : Int) : cents_fitting.f a = some (if mdFits a then (a, 0) else (0, 3)) := by
  unfold cents_fitting.f
  rw [fits_eq]
  simp only [Option.bind_some]
  by_cases h : mdFits a
  · rw [decide_eq_true h, if_pos rfl, if_pos h]
  · rw [decide_eq_false h, if_neg (by decide), if_neg h]
end Go.Proofs.Ytffdehnmoimikaa.Pr
