/- What MulDiv, Fits and fitting answer. -/
import Derived.Test.YtaiekjimdjlgbaaQ8F2P0
import Derived.Test.YtaiekjimdjlgbaaQ8F2P1
namespace Go.Proofs.Ytaiekjimdjlgbaa.Pr
open Go.RowKit Go.Proofs.Ytaiekjimdjlgbaa.Pr Go.Proofs.YtaiekjimdjlgbaaW.PrintWords Go.Proofs.YtaiekjimdjlgbaaW.PrintLast Go.Proofs.YtaiekjimdjlgbaaW.PrintMore
set_option linter.unusedVariables false
set_option linter.unusedSimpArgs false
theorem fits_eq (a : Int) : cents_Fits.f a = some (decide (mdFits a)) := by
  unfold cents_Fits.f
  by_cases h : a ≥ -1152921504606846976
  · rw [if_pos h]
    by_cases h2 : a ≤ 1152921504606846976
    · rw [decide_eq_true h2, decide_eq_true (show mdFits a from ⟨h, h2⟩)]
    · rw [decide_eq_false h2, decide_eq_false (show ¬ mdFits a from fun x => h2 x.2)]
  · rw [if_neg h, decide_eq_false (show ¬ mdFits a from fun x => h x.1)]
theorem rfits_eq (a : Int) : contangoref01_Fits.f a = some (decide (mdFits a)) := by
  unfold contangoref01_Fits.f
  by_cases h : a ≥ -1152921504606846976
  · rw [if_pos h]
    by_cases h2 : a ≤ 1152921504606846976
    · rw [decide_eq_true h2, decide_eq_true (show mdFits a from ⟨h, h2⟩)]
    · rw [decide_eq_false h2, decide_eq_false (show ¬ mdFits a from fun x => h2 x.2)]
  · rw [if_neg h, decide_eq_false (show ¬ mdFits a from fun x => h x.1)]
theorem fitting_eq (a : Int) : cents_fitting.f a = some (if mdFits a then (a, 0) else (0, 3)) := by
  unfold cents_fitting.f
  rw [fits_eq]
  simp only [Option.bind_some]
  by_cases h : mdFits a
  · rw [decide_eq_true h, if_pos rfl, if_pos h]
  · rw [decide_eq_false h, if_neg (by decide), if_neg h]
theorem md_eq (a b c m : Int) : cents_MulDiv.f a b c m = some (if mdFits a ∧ mdFits b ∧ mdFits c ∧ 1 ≤ m ∧ m ≤ 5 then (if c = 0 then (0, 4) else mdRes a b c m) else (0, 2)) := by
  unfold cents_MulDiv.f
  split
  · split <;> rfl
  · rfl
theorem rmd_eq (a b c m : Int) : contangoref01_MulDiv.f a b c m = cents_MulDiv.f a b c m := rfl
end Go.Proofs.Ytaiekjimdjlgbaa.Pr
