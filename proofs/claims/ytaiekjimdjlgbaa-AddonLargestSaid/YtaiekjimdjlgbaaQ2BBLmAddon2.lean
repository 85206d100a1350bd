/- What lots cost by the reference; more lots cost no less. -/
import Derived.Test.YtaiekjimdjlgbaaQ2BBP0
import Derived.Test.YtaiekjimdjlgbaaQ2BBP1
import Derived.Test.YtaiekjimdjlgbaaQ2BBLmName
namespace Go.Proofs.Ytaiekjimdjlgbaa.Pr
open Go.RowKit Go.Proofs.Ytaiekjimdjlgbaa.Pr Go.Proofs.YtaiekjimdjlgbaaW.PrintWords Go.Proofs.YtaiekjimdjlgbaaW.PrintLast Go.Proofs.YtaiekjimdjlgbaaW.PrintMore
set_option linter.unusedVariables false
set_option linter.unusedSimpArgs false
theorem addgoes (k : Nat) (hk : 2000 ≤ k) : contangolaw28_goes.f k = some true := at_rounds contangolaw28_goes.mono (show 300 ≤ k by omega) (by decide +kernel)
end Go.Proofs.Ytaiekjimdjlgbaa.Pr
