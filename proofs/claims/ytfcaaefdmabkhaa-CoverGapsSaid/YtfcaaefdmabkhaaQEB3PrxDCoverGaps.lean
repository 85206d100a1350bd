/- Words and lemmas that the printed walks use, without those that these claims don't need. -/
import Derived.Test.YtfcaaefdmabkhaaQEB3P7
import Derived.Test.YtfcaaefdmabkhaaQEB3PrxRd
namespace Go.Proofs.Ytfcaaefdmabkhaa.Pr
open Go.RowKit Go.Proofs.YtfcaaefdmabkhaaW.PrintWords Go.Proofs.YtfcaaefdmabkhaaW.PrintLast Go.Proofs.YtfcaaefdmabkhaaW.PrintMore
set_option linter.unusedVariables false
set_option linter.unusedSimpArgs false
def contangolaw34_CoverGaps.Pure : Prop := ∀ (l0 : List (S48)) (l1_0 : List (S46)) (l1_1 : List (S84)) (l1_2 : List (S98)), l0.length ≤ 9223372036854775807 → l0.length * 88 ≤ 140737488351232 → (∀ y_ ∈ l0, ok48 y_) → l1_0.length ≤ 9223372036854775807 → (∀ y_ ∈ l1_0, ok46 y_) → l1_1.length ≤ 9223372036854775807 → (∀ y_ ∈ l1_1, ok84 y_) → l1_2.length ≤ 9223372036854775807 → (∀ y_ ∈ l1_2, ok98 y_) → ∃ k, contangolaw34_CoverGaps.f k l0 l1_0 l1_1 l1_2 = some true
end Go.Proofs.Ytfcaaefdmabkhaa.Pr
