/- Rates: where a name stands, what Check and Convert answer, by the program and by the reference. -/
import Derived.Test.YtaiekjimdjlgbaaQ8F2LmName
import Derived.Test.YtaiekjimdjlgbaaQ8F2P0
namespace Go.Proofs.Ytaiekjimdjlgbaa.Pr
open Go.RowKit Go.Proofs.Ytaiekjimdjlgbaa.Pr Go.Proofs.YtaiekjimdjlgbaaW.PrintWords Go.Proofs.YtaiekjimdjlgbaaW.PrintLast Go.Proofs.YtaiekjimdjlgbaaW.PrintMore
set_option linter.unusedVariables false
set_option linter.unusedSimpArgs false
abbrev Rt := S94
end Go.Proofs.Ytaiekjimdjlgbaa.Pr
