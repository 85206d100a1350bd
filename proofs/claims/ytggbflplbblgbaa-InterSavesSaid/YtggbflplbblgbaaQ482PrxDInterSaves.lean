/- Words and lemmas that the printed walks use, without those that these claims don't need. -/
import Derived.Test.YtggbflplbblgbaaQ482P4
import Derived.Test.YtggbflplbblgbaaQ482PrxRd
namespace Go.Proofs.Ytggbflplbblgbaa.Pr
open Go.RowKit Go.Proofs.YtggbflplbblgbaaW.PrintWords Go.Proofs.YtggbflplbblgbaaW.PrintLast Go.Proofs.YtggbflplbblgbaaW.PrintMore
set_option linter.unusedVariables false
set_option linter.unusedSimpArgs false
def contangolaw25_InterSaves.Pure : Prop := ∀ (l0_0 : List ByteArray) (l0_1 : List Int) (l0_2 : List Int) (l1 : List (S75)), l0_0.length ≤ 9223372036854775807 → l0_0.length * 16 ≤ 140737488351232 → (∀ y_ ∈ l0_0, y_.size ≤ 9223372036854775807) → l0_1.length ≤ 9223372036854775807 → l0_1.length * 8 ≤ 140737488351232 → (∀ y_ ∈ l0_1, (Lit.int .i64 y_).wf = true) → l0_2.length ≤ 9223372036854775807 → l0_2.length * 8 ≤ 140737488351232 → (∀ y_ ∈ l0_2, (Lit.int .i64 y_).wf = true) → l1.length ≤ 9223372036854775807 → l1.length * 56 ≤ 140737488351232 → (∀ y_ ∈ l1, ok75 y_) → ∃ k, contangolaw25_InterSaves.f k l0_0 l0_1 l0_2 l1 = some true
end Go.Proofs.Ytggbflplbblgbaa.Pr
