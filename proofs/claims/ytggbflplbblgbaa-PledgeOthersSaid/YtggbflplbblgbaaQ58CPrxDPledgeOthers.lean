/- Words and lemmas that the printed walks use, without those that these claims don't need. -/
import Derived.Test.YtggbflplbblgbaaQ58CP6
import Derived.Test.YtggbflplbblgbaaQ58CPrxRd
namespace Go.Proofs.Ytggbflplbblgbaa.Pr
open Go.RowKit Go.Proofs.YtggbflplbblgbaaW.PrintWords Go.Proofs.YtggbflplbblgbaaW.PrintLast Go.Proofs.YtggbflplbblgbaaW.PrintMore
set_option linter.unusedVariables false
set_option linter.unusedSimpArgs false
def contangolaw32_PledgeOthers.Pure : Prop := ∀ (l0 : List (S26)) (a1_0 : ByteArray) (a1_1 : ByteArray) (a2_0 : ByteArray) (a2_1 : ByteArray) (a3_0 : ByteArray) (a3_1 : ByteArray), l0.length ≤ 9223372036854775807 → l0.length * 56 ≤ 140737488351232 → (∀ y_ ∈ l0, ok26 y_) → a1_0.size ≤ 9223372036854775807 → a1_1.size ≤ 9223372036854775807 → a2_0.size ≤ 9223372036854775807 → a2_1.size ≤ 9223372036854775807 → a3_0.size ≤ 9223372036854775807 → a3_1.size ≤ 9223372036854775807 → ∃ k, contangolaw32_PledgeOthers.f k l0 a1_0 a1_1 a2_0 a2_1 a3_0 a3_1 = some true
end Go.Proofs.Ytggbflplbblgbaa.Pr
