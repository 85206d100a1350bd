/- Words and lemmas that the printed walks use, without those that these claims don't need. -/
import Derived.Test.YtggbflplbblgbaaQ6B9P2
import Derived.Test.YtggbflplbblgbaaQ6B9P0
import Derived.Test.YtggbflplbblgbaaQ6B9LmReadKinds
namespace Go.Proofs.Ytggbflplbblgbaa.Pr
open Go.RowKit Go.Proofs.YtggbflplbblgbaaW.PrintWords Go.Proofs.YtggbflplbblgbaaW.PrintLast Go.Proofs.YtggbflplbblgbaaW.PrintMore
set_option linter.unusedVariables false
set_option linter.unusedSimpArgs false
def contangolaw25_InterTotals.Pure : Prop := ∀ (l0 : List Int), l0.length ≤ 9223372036854775807 → l0.length * 8 ≤ 140737488351232 → (∀ y_ ∈ l0, (Lit.int .i64 y_).wf = true) → ∃ k, contangolaw25_InterTotals.f k l0 = some true
end Go.Proofs.Ytggbflplbblgbaa.Pr
