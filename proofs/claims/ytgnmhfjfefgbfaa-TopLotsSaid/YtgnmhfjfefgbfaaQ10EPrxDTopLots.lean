/- Words and lemmas that the printed walks use, without those that these claims don't need. -/
import Derived.Test.YtgnmhfjfefgbfaaQ10EP8
import Derived.Test.YtgnmhfjfefgbfaaQ10EPrxRd
namespace Go.Proofs.Ytgnmhfjfefgbfaa.Pr
open Go.RowKit Go.Proofs.YtgnmhfjfefgbfaaW.PrintWords Go.Proofs.YtgnmhfjfefgbfaaW.PrintLast Go.Proofs.YtgnmhfjfefgbfaaW.PrintMore
set_option linter.unusedVariables false
set_option linter.unusedSimpArgs false
def contangotop_TopLots.Pure : Prop := ∀ (l0 : List (S71)) (l1 : List (S128)) (a2 : Int), l0.length ≤ 9223372036854775807 → l0.length * 56 ≤ 140737488351232 → (∀ y_ ∈ l0, ok71 y_) → l1.length ≤ 9223372036854775807 → l1.length * 72 ≤ 140737488351232 → (∀ y_ ∈ l1, ok128 y_) → (∀ y_ ∈ l1, y_.f1.length * 8 ≤ 140737488351232) → (Lit.int .i64 a2).wf = true → ∃ k, contangotop_TopLots.f k l0 l1 a2 = some true
end Go.Proofs.Ytgnmhfjfefgbfaa.Pr
