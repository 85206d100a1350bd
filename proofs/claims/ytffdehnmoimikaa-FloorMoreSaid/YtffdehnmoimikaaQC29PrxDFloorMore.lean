/- Words and lemmas that the printed walks use, without those that these claims don't need. -/
import Derived.Test.YtffdehnmoimikaaQC29P1
import Derived.Test.YtffdehnmoimikaaQC29PrxRd
namespace Go.Proofs.Ytffdehnmoimikaa.Pr
open Go.RowKit Go.Proofs.YtffdehnmoimikaaW.PrintWords Go.Proofs.YtffdehnmoimikaaW.PrintLast Go.Proofs.YtffdehnmoimikaaW.PrintMore
set_option linter.unusedVariables false
set_option linter.unusedSimpArgs false
def contangolaw26_FloorMore.Pure : Prop := ∀ (l0 : List (S40)) (a1_0 : Int) (a1_1 : Int) (a1_2 : Int) (a2 : Int), l0.length ≤ 9223372036854775807 → l0.length * 56 ≤ 140737488351232 → (∀ y_ ∈ l0, ok40 y_) → (Lit.int .i64 a1_0).wf = true → (Lit.int .i64 a1_1).wf = true → (Lit.int .i64 a1_2).wf = true → (Lit.int .i64 a2).wf = true → ∃ k, contangolaw26_FloorMore.f k l0 a1_0 a1_1 a1_2 a2 = some true
end Go.Proofs.Ytffdehnmoimikaa.Pr
