/- Words and lemmas that the printed walks use, without those that these claims don't need. -/
import Derived.Test.YtaiekjimdjlgbaaQ8F2P2
import Derived.Test.YtaiekjimdjlgbaaQ8F2PrxRd
namespace Go.Proofs.Ytaiekjimdjlgbaa.Pr
open Go.RowKit Go.Proofs.YtaiekjimdjlgbaaW.PrintWords Go.Proofs.YtaiekjimdjlgbaaW.PrintLast Go.Proofs.YtaiekjimdjlgbaaW.PrintMore
set_option linter.unusedVariables false
set_option linter.unusedSimpArgs false
def contangolaw28_AddonCharges.Pure : Prop := ∀ (a0 : Int) (l1 : List (S103)), (Lit.int .i64 a0).wf = true → l1.length ≤ 9223372036854775807 → l1.length * 16 ≤ 140737488351232 → (∀ y_ ∈ l1, ok103 y_) → ∃ k, contangolaw28_AddonCharges.f k a0 l1 = some true
end Go.Proofs.Ytaiekjimdjlgbaa.Pr
