/- Limits: how much of each pledge counts, and all together, by the program and by the reference. -/
import Derived.Test.YtfcaaefdmabkhaaQ4A5LmAsset
import Derived.Test.YtfcaaefdmabkhaaQ4A5LmName
import Derived.Test.YtfcaaefdmabkhaaQ4A5P0
import Derived.Test.YtfcaaefdmabkhaaQ4A5P2
import Derived.Test.YtfcaaefdmabkhaaQ4A5PrxRd
import Derived.Test.YtfcaaefdmabkhaaQ4A5P1
import Derived.Test.YtfcaaefdmabkhaaQ4A5LmBytes
import Derived.Test.YtfcaaefdmabkhaaQ4A5P3
import Derived.Test.YtfcaaefdmabkhaaQ4A5LmRate
import Derived.Test.YtfcaaefdmabkhaaQ4A5LmRate2
import Derived.Test.YtfcaaefdmabkhaaQ4A5P4
import Derived.Test.YtfcaaefdmabkhaaQ4A5P6
import Derived.Test.YtfcaaefdmabkhaaQ4A5P5
namespace Go.Proofs.Ytfcaaefdmabkhaa.Pr
open Go.RowKit Go.Proofs.Ytfcaaefdmabkhaa.Pr Go.Proofs.YtfcaaefdmabkhaaW.PrintWords Go.Proofs.YtfcaaefdmabkhaaW.PrintLast Go.Proofs.YtfcaaefdmabkhaaW.PrintMore
set_option linter.unusedVariables false
set_option linter.unusedSimpArgs false
def moneyN (n : Int) : Prop := 0 ≤ n ∧ n ≤ 1152921504606846976
instance (n : Int) : Decidable (moneyN n) := inferInstanceAs (Decidable (_ ∧ _))
end Go.Proofs.Ytfcaaefdmabkhaa.Pr
