/- CurveAts: whether points may be, and the price of a day, are as the document says. -/
import Derived.Test.YtaembbndjpebhaaQBF7LmCurveChk
import Derived.Test.YtaembbndjpebhaaQBF7LmCurveTop
import Derived.Test.YtaembbndjpebhaaQBF7P3
import Derived.Test.YtaembbndjpebhaaQBF7PrxDCurveAts
import Derived.Test.YtaembbndjpebhaaQBF7P0
namespace Go.Proofs.Ytaembbndjpebhaa.Pure
open Go.RowKit Go.Proofs.Ytaembbndjpebhaa.Pr Go.Proofs.YtaembbndjpebhaaW.PrintWords Go.Proofs.YtaembbndjpebhaaW.PrintLast Go.Proofs.YtaembbndjpebhaaW.PrintMore
set_option linter.unusedVariables false
set_option linter.unusedSimpArgs false
theorem CurveAts : contangolaw19_CurveAts.Pure := by
 intro l day tick _ _ _ _ _
 refine ⟨4000, ?_⟩
 unfold contangolaw19_CurveAts.f
 by_cases h : (l.length : Int) > 300
 ·rw [if_pos h, goes19 4000 (by omega)]; rfl
 rw [if_neg h, Option.bind_some, if_pos (by simp; omega), Option.bind_some, List.nil_append, At_eq l day tick 4000 (by omega), Option.bind_some, rAt_eq l day tick 4000 (by omega), Option.bind_some, QbT l 4000 (by omega), Option.bind_some, QbI l 4000 (by omega), Option.bind_some, if_pos rfl, if_pos rfl, if_pos rfl, QbC l (by omega) 4000 (by omega), Option.bind_some, if_pos rfl, goes19 4000 (by omega)]
 rfl
end Go.Proofs.Ytaembbndjpebhaa.Pure
