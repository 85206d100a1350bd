/- Cover: the lack, by the program and by the reference; the page's examples. -/
import Derived.Test.YtfcaaefdmabkhaaQ787P0
import Derived.Test.YtfcaaefdmabkhaaQ787P6
namespace Go.Proofs.Ytfcaaefdmabkhaa.Pr
open Go.RowKit Go.Proofs.Ytfcaaefdmabkhaa.Pr Go.Proofs.YtfcaaefdmabkhaaW.PrintWords Go.Proofs.YtfcaaefdmabkhaaW.PrintLast Go.Proofs.YtfcaaefdmabkhaaW.PrintMore
set_option linter.unusedVariables false
set_option linter.unusedSimpArgs false
theorem goes34 (k : Nat) (hk : 7000 ≤ k) : Qa1.f k = some true := QdB Qa1.mono (show 400 ≤ k by omega) (by decide +kernel)
end Go.Proofs.Ytfcaaefdmabkhaa.Pr
