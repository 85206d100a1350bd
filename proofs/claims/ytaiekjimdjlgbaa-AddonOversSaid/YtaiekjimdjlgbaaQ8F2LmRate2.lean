/- Rates: what Convert, Base, Cross and Total answer. -/
import Derived.Test.YtaiekjimdjlgbaaQ8F2LmCentsMd
import Derived.Test.YtaiekjimdjlgbaaQ8F2LmRate
import Derived.Test.YtaiekjimdjlgbaaQ8F2P0
import Derived.Test.YtaiekjimdjlgbaaQ8F2P1
import Derived.Test.YtaiekjimdjlgbaaQ8F2PrxRd
namespace Go.Proofs.Ytaiekjimdjlgbaa.Pr
open Go.RowKit Go.Proofs.Ytaiekjimdjlgbaa.Pr Go.Proofs.YtaiekjimdjlgbaaW.PrintWords Go.Proofs.YtaiekjimdjlgbaaW.PrintLast Go.Proofs.YtaiekjimdjlgbaaW.PrintMore
set_option linter.unusedVariables false
set_option linter.unusedSimpArgs false
def mdS (a b c m : Int) : Int × Int := if mdFits a ∧ mdFits b ∧ mdFits c ∧ 1 ≤ m ∧ m ≤ 5 then (if c = 0 then (0, 4) else mdRes a b c m) else (0, 2)
def inR (l : List Rt) (i : Int) : Prop := 0 ≤ i ∧ i < (l.length : Int)
instance (l : List Rt) (i : Int) : Decidable (inR l i) := inferInstanceAs (Decidable (_ ∧ _))
end Go.Proofs.Ytaiekjimdjlgbaa.Pr
