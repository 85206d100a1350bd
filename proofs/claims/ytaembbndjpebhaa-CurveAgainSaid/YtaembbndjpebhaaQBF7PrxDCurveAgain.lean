/- Words and lemmas that the printed walks use, without those that these claims don't need. -/
import Derived.Test.YtaembbndjpebhaaQBF7P4
import Derived.Test.YtaembbndjpebhaaQBF7PrxRd
namespace Go.Proofs.Ytaembbndjpebhaa.Pr
open Go.RowKit Go.Proofs.YtaembbndjpebhaaW.PrintWords Go.Proofs.YtaembbndjpebhaaW.PrintLast Go.Proofs.YtaembbndjpebhaaW.PrintMore
set_option linter.unusedVariables false
set_option linter.unusedSimpArgs false
def contangolaw19_CurveAgain.Pure : Prop := ∀ (l0 : List (S56)) (a1 : Int), l0.length ≤ 9223372036854775807 → l0.length * 24 ≤ 140737488351232 → (∀ y_ ∈ l0, ok56 y_) → (Lit.int .i64 a1).wf = true → ∃ k, contangolaw19_CurveAgain.f k l0 a1 = some true
end Go.Proofs.Ytaembbndjpebhaa.Pr
