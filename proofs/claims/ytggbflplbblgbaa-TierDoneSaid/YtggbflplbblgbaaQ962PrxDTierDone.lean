/- Words and lemmas that the printed walks use, without those that these claims don't need. -/
import Derived.Test.YtggbflplbblgbaaQ962P2
import Derived.Test.YtggbflplbblgbaaQ962PrxRd
namespace Go.Proofs.Ytggbflplbblgbaa.Pr
open Go.RowKit Go.Proofs.YtggbflplbblgbaaW.PrintWords Go.Proofs.YtggbflplbblgbaaW.PrintLast Go.Proofs.YtggbflplbblgbaaW.PrintMore
set_option linter.unusedVariables false
set_option linter.unusedSimpArgs false
def contangolaw24_TierDone.Pure : Prop := ∀ (l0 : List Int) (l1 : List Int) (l2 : List (S91)), l0.length ≤ 9223372036854775807 → l0.length * 8 ≤ 140737488351232 → (∀ y_ ∈ l0, (Lit.int .i64 y_).wf = true) → l1.length ≤ 9223372036854775807 → l1.length * 8 ≤ 140737488351232 → (∀ y_ ∈ l1, (Lit.int .i64 y_).wf = true) → l2.length ≤ 9223372036854775807 → l2.length * 24 ≤ 140737488351232 → (∀ y_ ∈ l2, ok91 y_) → ∃ k, contangolaw24_TierDone.f k l0 l1 l2 = some true
end Go.Proofs.Ytggbflplbblgbaa.Pr
