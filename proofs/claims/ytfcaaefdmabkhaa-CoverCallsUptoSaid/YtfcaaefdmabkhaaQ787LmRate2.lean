/- Rates: what Convert, Base, Cross and Total answer. -/
import Derived.Test.YtfcaaefdmabkhaaQ787P0
import Derived.Test.YtfcaaefdmabkhaaQ787LmRate
import Derived.Test.YtfcaaefdmabkhaaQ787LmSums
import Derived.Test.YtfcaaefdmabkhaaQ787P1
import Derived.Test.YtfcaaefdmabkhaaQ787PrxRd
namespace Go.Proofs.Ytfcaaefdmabkhaa.Pr
open Go.RowKit Go.Proofs.Ytfcaaefdmabkhaa.Pr Go.Proofs.YtfcaaefdmabkhaaW.PrintWords Go.Proofs.YtfcaaefdmabkhaaW.PrintLast Go.Proofs.YtfcaaefdmabkhaaW.PrintMore
set_option linter.unusedVariables false
set_option linter.unusedSimpArgs false
def inR (l : List Rt) (i : Int) : Prop := 0 ≤ i ∧ i < (l.length : Int)
instance (l : List Rt) (i : Int) : Decidable (inR l i) := inferInstanceAs (Decidable (_ ∧ _))
end Go.Proofs.Ytfcaaefdmabkhaa.Pr
