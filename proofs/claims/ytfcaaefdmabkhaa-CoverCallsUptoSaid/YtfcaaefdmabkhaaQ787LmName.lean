/- Names: what a name is, told by the program and by the reference. -/
import Derived.Test.YtfcaaefdmabkhaaQ787P0
import Derived.Test.YtfcaaefdmabkhaaQ787P1
namespace Go.Proofs.Ytfcaaefdmabkhaa.Pr
open Go.RowKit Go.Proofs.Ytfcaaefdmabkhaa.Pr Go.Proofs.YtfcaaefdmabkhaaW.PrintWords Go.Proofs.YtfcaaefdmabkhaaW.PrintLast Go.Proofs.YtfcaaefdmabkhaaW.PrintMore
set_option linter.unusedVariables false
set_option linter.unusedSimpArgs false
theorem nwrap {x : Int} (h0 : 0 ≤ x) (h1 : x ≤ 1152921504606846976) : wrap64 x = x := IntWalk.wrap64_in x (by omega)
end Go.Proofs.Ytfcaaefdmabkhaa.Pr
