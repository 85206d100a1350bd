/- Words and lemmas that the printed walks use, without those that these claims don't need. -/
import Derived.Test.YtaiekjimdjlgbaaQ2BBP4
import Derived.Test.YtaiekjimdjlgbaaQ2BBPrxRd
namespace Go.Proofs.Ytaiekjimdjlgbaa.Pr
open Go.RowKit Go.Proofs.YtaiekjimdjlgbaaW.PrintWords Go.Proofs.YtaiekjimdjlgbaaW.PrintLast Go.Proofs.YtaiekjimdjlgbaaW.PrintMore
set_option linter.unusedVariables false
set_option linter.unusedSimpArgs false
def contangolaw28_AddonLargest.Pure : Prop := ∀ (l0 : List (S109)), l0.length ≤ 9223372036854775807 → l0.length * 56 ≤ 140737488351232 → (∀ y_ ∈ l0, ok109 y_) → ∃ k, contangolaw28_AddonLargest.f k l0 = some true
end Go.Proofs.Ytaiekjimdjlgbaa.Pr
