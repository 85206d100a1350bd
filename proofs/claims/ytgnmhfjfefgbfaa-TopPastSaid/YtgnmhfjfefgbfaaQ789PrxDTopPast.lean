/- Words and lemmas that the printed walks use, without those that these claims don't need. -/
import Derived.Test.YtgnmhfjfefgbfaaQ789P3
import Derived.Test.YtgnmhfjfefgbfaaQ789PrxRd
namespace Go.Proofs.Ytgnmhfjfefgbfaa.Pr
open Go.RowKit Go.Proofs.YtgnmhfjfefgbfaaW.PrintWords Go.Proofs.YtgnmhfjfefgbfaaW.PrintLast Go.Proofs.YtgnmhfjfefgbfaaW.PrintMore
set_option linter.unusedVariables false
set_option linter.unusedSimpArgs false
def contangotop_TopPast.Pure : Prop := ∀ (l0 : List (S71)) (l1 : List (S71)) (l2_0 : List (S69)) (l2_1 : List (List Int)) (a2_2 : Int), l0.length ≤ 9223372036854775807 → l0.length * 56 ≤ 140737488351232 → (∀ y_ ∈ l0, ok71 y_) → l1.length ≤ 9223372036854775807 → l1.length * 56 ≤ 140737488351232 → (∀ y_ ∈ l1, ok71 y_) → l2_0.length ≤ 9223372036854775807 → l2_0.length * 40 ≤ 140737488351232 → (∀ y_ ∈ l2_0, ok69 y_) → l2_1.length ≤ 9223372036854775807 → l2_1.length * 24 ≤ 140737488351232 → (∀ y_ ∈ l2_1, (∀ y__ ∈ y_, (Lit.int .i64 y__).wf = true)) → (Lit.int .i64 a2_2).wf = true → ∃ k, contangotop_TopPast.f k l0 l1 l2_0 l2_1 a2_2 = some true
end Go.Proofs.Ytgnmhfjfefgbfaa.Pr
