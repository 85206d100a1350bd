/- Words and lemmas that the printed walks use, without those that these claims don't need. -/
import Derived.Test.YtfcaaefdmabkhaaQ787P7
import Derived.Test.YtfcaaefdmabkhaaQ787PrxRd
namespace Go.Proofs.Ytfcaaefdmabkhaa.Pr
open Go.RowKit Go.Proofs.YtfcaaefdmabkhaaW.PrintWords Go.Proofs.YtfcaaefdmabkhaaW.PrintLast Go.Proofs.YtfcaaefdmabkhaaW.PrintMore
set_option linter.unusedVariables false
set_option linter.unusedSimpArgs false
def contangolaw34_CoverCalls.Pure : Prop := ∀ (l0 : List (S100)) (a1 : Int) (a2 : ByteArray), l0.length ≤ 9223372036854775807 → l0.length * 56 ≤ 140737488351232 → (∀ y_ ∈ l0, ok100 y_) → (Lit.int .i64 a1).wf = true → a2.size ≤ 140737488351232 → ∃ k, contangolaw34_CoverCalls.f k l0 a1 a2 = some true
end Go.Proofs.Ytfcaaefdmabkhaa.Pr
