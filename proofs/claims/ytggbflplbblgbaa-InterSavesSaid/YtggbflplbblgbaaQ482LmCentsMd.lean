/- What MulDiv, Fits and fitting answer. -/
import Derived.Test.YtggbflplbblgbaaQ482P0
import Derived.Test.YtggbflplbblgbaaQ482P2
namespace Go.Proofs.Ytggbflplbblgbaa.Pr
open Go.RowKit Go.Proofs.Ytggbflplbblgbaa.Pr Go.Proofs.YtggbflplbblgbaaW.PrintWords Go.Proofs.YtggbflplbblgbaaW.PrintLast Go.Proofs.YtggbflplbblgbaaW.PrintMore
set_option linter.unusedVariables false
set_option linter.unusedSimpArgs false
theorem md_eq (a b c m : Int) : Qav.f a b c m = some (if mdFits a ∧ mdFits b ∧ mdFits c ∧ 1 ≤ m ∧ m ≤ 5 then (if c = 0 then (0, 4) else mdRes a b c m) else (0, 2)) := by
 unfold Qav.f
 split
 ·split <;> rfl
 rfl
theorem rmd_eq (a b c m : Int) : Qaz.f a b c m = Qav.f a b c m := rfl
end Go.Proofs.Ytggbflplbblgbaa.Pr
