/- Limits: how much of each pledge counts, and all together, by the program and by the reference. -/
import Derived.Test.YtfcaaefdmabkhaaQ787LmAsset
import Derived.Test.YtfcaaefdmabkhaaQ787LmName
import Derived.Test.YtfcaaefdmabkhaaQ787P0
import Derived.Test.YtfcaaefdmabkhaaQ787P3
import Derived.Test.YtfcaaefdmabkhaaQ787PrxRd
import Derived.Test.YtfcaaefdmabkhaaQ787P1
import Derived.Test.YtfcaaefdmabkhaaQ787P2
import Derived.Test.YtfcaaefdmabkhaaQ787LmRate
import Derived.Test.YtfcaaefdmabkhaaQ787LmRate2
import Derived.Test.YtfcaaefdmabkhaaQ787LmSums
import Derived.Test.YtfcaaefdmabkhaaQ787P4
namespace Go.Proofs.Ytfcaaefdmabkhaa.Pr
open Go.RowKit Go.Proofs.Ytfcaaefdmabkhaa.Pr Go.Proofs.YtfcaaefdmabkhaaW.PrintWords Go.Proofs.YtfcaaefdmabkhaaW.PrintLast Go.Proofs.YtfcaaefdmabkhaaW.PrintMore
set_option linter.unusedVariables false
set_option linter.unusedSimpArgs false
def moneyN (n : Int) : Prop := 0 ≤ n ∧ n ≤ 1152921504606846976
instance (n : Int) : Decidable (moneyN n) := inferInstanceAs (Decidable (_ ∧ _))
end Go.Proofs.Ytfcaaefdmabkhaa.Pr
