/- Words and lemmas that the printed walks use, without those that these claims don't need. -/
import Derived.Test.YtaiekjimdjlgbaaQ8F2P2
import Derived.Test.YtaiekjimdjlgbaaQ8F2PrxRd
namespace Go.Proofs.Ytaiekjimdjlgbaa.Pr
open Go.RowKit Go.Proofs.YtaiekjimdjlgbaaW.PrintWords Go.Proofs.YtaiekjimdjlgbaaW.PrintLast Go.Proofs.YtaiekjimdjlgbaaW.PrintMore
set_option linter.unusedVariables false
set_option linter.unusedSimpArgs false
def contangolaw28_AddonRises.Pure : Prop := ∀ (a0 : Int) (a1 : Int) (l2 : List (S103)), (Lit.int .i64 a0).wf = true → (Lit.int .i64 a1).wf = true → l2.length ≤ 9223372036854775807 → l2.length * 16 ≤ 140737488351232 → (∀ y_ ∈ l2, ok103 y_) → ∃ k, contangolaw28_AddonRises.f k a0 a1 l2 = some true
end Go.Proofs.Ytaiekjimdjlgbaa.Pr
