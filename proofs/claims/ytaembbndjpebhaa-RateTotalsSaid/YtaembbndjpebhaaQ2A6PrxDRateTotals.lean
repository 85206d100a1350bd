/- Words and lemmas that the printed walks use, without those that these claims don't need. -/
import Derived.Test.YtaembbndjpebhaaQ2A6P2
import Derived.Test.YtaembbndjpebhaaQ2A6PrxRd
namespace Go.Proofs.Ytaembbndjpebhaa.Pr
open Go.RowKit Go.Proofs.YtaembbndjpebhaaW.PrintWords Go.Proofs.YtaembbndjpebhaaW.PrintLast Go.Proofs.YtaembbndjpebhaaW.PrintMore
set_option linter.unusedVariables false
set_option linter.unusedSimpArgs false
def contangolaw08_RateTotals.Pure : Prop := ∀ (l0 : List (S87)) (l1 : List Int) (a2 : Int), l0.length ≤ 9223372036854775807 → l0.length * 24 ≤ 140737488351232 → (∀ y_ ∈ l0, ok87 y_) → l1.length ≤ 9223372036854775807 → l1.length * 8 ≤ 140737488351232 → (∀ y_ ∈ l1, (Lit.int .i64 y_).wf = true) → (Lit.int .i64 a2).wf = true → ∃ k, contangolaw08_RateTotals.f k l0 l1 a2 = some true
end Go.Proofs.Ytaembbndjpebhaa.Pr
