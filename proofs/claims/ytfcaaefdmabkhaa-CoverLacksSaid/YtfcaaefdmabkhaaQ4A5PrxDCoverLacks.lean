/- Words and lemmas that the printed walks use, without those that these claims don't need. -/
import Derived.Test.YtfcaaefdmabkhaaQ4A5P8
import Derived.Test.YtfcaaefdmabkhaaQ4A5PrxRd
namespace Go.Proofs.Ytfcaaefdmabkhaa.Pr
open Go.RowKit Go.Proofs.YtfcaaefdmabkhaaW.PrintWords Go.Proofs.YtfcaaefdmabkhaaW.PrintLast Go.Proofs.YtfcaaefdmabkhaaW.PrintMore
set_option linter.unusedVariables false
set_option linter.unusedSimpArgs false
def contangolaw34_CoverLacks.Pure : Prop := ∀ (a0 : Int) (a1 : Int), (Lit.int .i64 a0).wf = true → (Lit.int .i64 a1).wf = true → ∃ k, contangolaw34_CoverLacks.f k a0 a1 = some true
end Go.Proofs.Ytfcaaefdmabkhaa.Pr
