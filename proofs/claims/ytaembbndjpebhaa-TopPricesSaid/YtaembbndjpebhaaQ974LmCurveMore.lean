/- Curves: moved and filled. -/
import Derived.Test.YtaembbndjpebhaaQ974LmCents
import Derived.Test.YtaembbndjpebhaaQ974LmCurveAt
import Derived.Test.YtaembbndjpebhaaQ974LmCurveChk
import Derived.Test.YtaembbndjpebhaaQ974LmCurveEq
import Derived.Test.YtaembbndjpebhaaQ974LmCurvePr
import Derived.Test.YtaembbndjpebhaaQ974P0
import Derived.Test.YtaembbndjpebhaaQ974LmCurveLaw
import Derived.Test.YtaembbndjpebhaaQ974LmCurveTop
namespace Go.Proofs.Ytaembbndjpebhaa.Pr
open Go.RowKit Go.Proofs.Ytaembbndjpebhaa.Pr Go.Proofs.YtaembbndjpebhaaW.PrintWords Go.Proofs.YtaembbndjpebhaaW.PrintLast Go.Proofs.YtaembbndjpebhaaW.PrintMore
set_option linter.unusedVariables false
set_option linter.unusedSimpArgs false
theorem Qen (l : List Pt) (i : Nat) (h : i < l.length) : rd_T56 l (i : Int) ∈ l := by
 rw [pt_rd l i h]; exact List.getElem_mem _
end Go.Proofs.Ytaembbndjpebhaa.Pr
