/- Words and lemmas that the printed walks use, without those that these claims don't need. -/
import Derived.Test.YtgnmhfjfefgbfaaQ5C0P7
import Derived.Test.YtgnmhfjfefgbfaaQ5C0PrxRd
namespace Go.Proofs.Ytgnmhfjfefgbfaa.Pr
open Go.RowKit Go.Proofs.YtgnmhfjfefgbfaaW.PrintWords Go.Proofs.YtgnmhfjfefgbfaaW.PrintLast Go.Proofs.YtgnmhfjfefgbfaaW.PrintMore
set_option linter.unusedVariables false
set_option linter.unusedSimpArgs false
def contangotop_TopSpreads.Pure : Prop := ∀ (l0 : List (S71)) (l1_0 : List (S128)) (l1_1 : List (S146)) (l1_2 : List (S152)), l0.length ≤ 9223372036854775807 → l0.length * 56 ≤ 140737488351232 → (∀ y_ ∈ l0, ok71 y_) → l1_0.length ≤ 9223372036854775807 → l1_0.length * 72 ≤ 140737488351232 → (∀ y_ ∈ l1_0, ok128 y_) → l1_1.length ≤ 9223372036854775807 → l1_1.length * 24 ≤ 140737488351232 → (∀ y_ ∈ l1_1, ok146 y_) → l1_2.length ≤ 9223372036854775807 → l1_2.length * 56 ≤ 140737488351232 → (∀ y_ ∈ l1_2, ok152 y_) → ∃ k, contangotop_TopSpreads.f k l0 l1_0 l1_1 l1_2 = some true
end Go.Proofs.Ytgnmhfjfefgbfaa.Pr
