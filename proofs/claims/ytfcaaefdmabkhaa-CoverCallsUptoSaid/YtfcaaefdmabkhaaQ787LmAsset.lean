/- Assets: what Check, CheckAll, Find, Value and Worth answer, by the program and by the reference. -/
import Derived.Test.YtfcaaefdmabkhaaQ787P0
import Derived.Test.YtfcaaefdmabkhaaQ787P1
import Derived.Test.YtfcaaefdmabkhaaQ787LmName
import Derived.Test.YtfcaaefdmabkhaaQ787LmRate
import Derived.Test.YtfcaaefdmabkhaaQ787LmRate2
namespace Go.Proofs.Ytfcaaefdmabkhaa.Pr
open Go.RowKit Go.Proofs.Ytfcaaefdmabkhaa.Pr Go.Proofs.YtfcaaefdmabkhaaW.PrintWords Go.Proofs.YtfcaaefdmabkhaaW.PrintLast Go.Proofs.YtfcaaefdmabkhaaW.PrintMore
set_option linter.unusedVariables false
set_option linter.unusedSimpArgs false
def prt (n : Int) : Prop := 0 ≤ n ∧ n ≤ 1000
instance (n : Int) : Decidable (prt n) := inferInstanceAs (Decidable (_ ∧ _))
end Go.Proofs.Ytfcaaefdmabkhaa.Pr
