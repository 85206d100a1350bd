/- What the functions of package cents and of its reference compute, as plain numbers. No condition but those that each theorem names. -/
import Derived.Test.YtggbflplbblgbaaQ962LmCentsMd
import Derived.Test.YtggbflplbblgbaaQ962P0
namespace Go.Proofs.Ytggbflplbblgbaa.Pr
open Go.RowKit Go.Proofs.Ytggbflplbblgbaa.Pr Go.Proofs.YtggbflplbblgbaaW.PrintWords Go.Proofs.YtggbflplbblgbaaW.PrintLast Go.Proofs.YtggbflplbblgbaaW.PrintMore
set_option linter.unusedVariables false
set_option linter.unusedSimpArgs false
def addS (a b : Int) : Int × Int := if mdFits a ∧ mdFits b then (if mdFits (a + b) then (a + b, 0) else (0, 3)) else (0, 2)
theorem add_eq (a b : Int) : Qbs.f a b = some (addS a b) := by
 unfold Qbs.f addS
 rw [QbQ, QbQ]
 simp only [Option.bind_some]
 by_cases h : mdFits a
 ·rw [decide_eq_true h, if_pos rfl]
  by_cases h2 : mdFits b
  ·rw [decide_eq_true h2, if_pos rfl, if_pos ⟨h, h2⟩, Qda]
   have hw : wrap64 (a + b) = a + b := by unfold mdFits at h h2; unfold wrap64; omega
   rw [hw]
   rfl
  rw [decide_eq_false h2, if_neg (by decide), if_neg (fun x => h2 x.2)]
 rw [decide_eq_false h, if_neg (by decide), if_neg (fun x => h x.1)]
end Go.Proofs.Ytggbflplbblgbaa.Pr
