/- Limits: what an account's pledges are worth by kinds. -/
import Derived.Test.YtfcaaefdmabkhaaQ629LmAsset
import Derived.Test.YtfcaaefdmabkhaaQ629LmAssetAll
import Derived.Test.YtfcaaefdmabkhaaQ629LmLimit
import Derived.Test.YtfcaaefdmabkhaaQ629LmLimitCap
import Derived.Test.YtfcaaefdmabkhaaQ629LmName
import Derived.Test.YtfcaaefdmabkhaaQ629LmPledge
import Derived.Test.YtfcaaefdmabkhaaQ629LmPledgeOf
import Derived.Test.YtfcaaefdmabkhaaQ629LmPledgeTop
import Derived.Test.YtfcaaefdmabkhaaQ629LmPledgeW
import Derived.Test.YtfcaaefdmabkhaaQ629LmRate
import Derived.Test.YtfcaaefdmabkhaaQ629P0
import Derived.Test.YtfcaaefdmabkhaaQ629P2
import Derived.Test.YtfcaaefdmabkhaaQ629P3
import Derived.Test.YtfcaaefdmabkhaaQ629P1
import Derived.Test.YtfcaaefdmabkhaaQ629P4
namespace Go.Proofs.Ytfcaaefdmabkhaa.Pr
open Go.RowKit Go.Proofs.Ytfcaaefdmabkhaa.Pr Go.Proofs.YtfcaaefdmabkhaaW.PrintWords Go.Proofs.YtfcaaefdmabkhaaW.PrintLast Go.Proofs.YtfcaaefdmabkhaaW.PrintMore
set_option linter.unusedVariables false
set_option linter.unusedSimpArgs false
theorem Qen (L : List As) (R : List Rt) : ∀ l : List Pled, (∀ p ∈ l, wokP L R p) → 0 ≤ sumW L R l
 | [], _ => Int.le_refl _
 | p :: t, h => by
  have := Qen L R t (fun q hq => h q (List.mem_cons_of_mem _ hq))
  have := (Qcn (h p List.mem_cons_self)).2.2
  rw [sumW]; omega
end Go.Proofs.Ytfcaaefdmabkhaa.Pr
