/- Words and lemmas that the printed walks use, without those that these claims don't need. -/
import Derived.Test.YtgnmhfjfefgbfaaQ3D7P9
import Derived.Test.YtgnmhfjfefgbfaaQ3D7PrxRd
namespace Go.Proofs.Ytgnmhfjfefgbfaa.Pr
open Go.RowKit Go.Proofs.YtgnmhfjfefgbfaaW.PrintWords Go.Proofs.YtgnmhfjfefgbfaaW.PrintLast Go.Proofs.YtgnmhfjfefgbfaaW.PrintMore
set_option linter.unusedVariables false
set_option linter.unusedSimpArgs false
def contangotop_TopCallMet.Pure : Prop := ∀ (a0_0 : ByteArray) (a0_1 : ByteArray) (a0_2 : Int) (a0_3 : Int) (a0_4 : Int) (a0_5 : Int) (a0_6 : Int) (a0_7 : Int) (a0_8 : Int) (l0_9 : List (S346)) (l0_10 : List (S112)) (l0_11 : List (S279)) (a0_12 : ByteArray) (a1 : Int), a0_0.size ≤ 9223372036854775807 → a0_1.size ≤ 9223372036854775807 → (Lit.int .i64 a0_2).wf = true → (Lit.int .i64 a0_3).wf = true → (Lit.int .i64 a0_4).wf = true → (Lit.int .i64 a0_5).wf = true → (Lit.int .i64 a0_6).wf = true → (Lit.int .i64 a0_7).wf = true → (Lit.int .i64 a0_8).wf = true → l0_9.length ≤ 9223372036854775807 → l0_9.length * 56 ≤ 140737488351232 → (∀ y_ ∈ l0_9, ok346 y_) → l0_10.length ≤ 9223372036854775807 → l0_10.length * 56 ≤ 140737488351232 → (∀ y_ ∈ l0_10, ok112 y_) → l0_11.length ≤ 9223372036854775807 → l0_11.length * 24 ≤ 140737488351232 → (∀ y_ ∈ l0_11, ok279 y_) → a0_12.size ≤ 9223372036854775807 → (Lit.int .i64 a1).wf = true → ∃ k, contangotop_TopCallMet.f k a0_0 a0_1 a0_2 a0_3 a0_4 a0_5 a0_6 a0_7 a0_8 l0_9 l0_10 l0_11 a0_12 a1 = some true
end Go.Proofs.Ytgnmhfjfefgbfaa.Pr
