/- Limits: what an account's pledges are worth by kinds. -/
import Derived.Test.YtfcaaefdmabkhaaQ2F0LmAsset
import Derived.Test.YtfcaaefdmabkhaaQ2F0LmAssetAll
import Derived.Test.YtfcaaefdmabkhaaQ2F0LmLimit
import Derived.Test.YtfcaaefdmabkhaaQ2F0LmLimitCap
import Derived.Test.YtfcaaefdmabkhaaQ2F0LmName
import Derived.Test.YtfcaaefdmabkhaaQ2F0LmPledge
import Derived.Test.YtfcaaefdmabkhaaQ2F0LmPledgeOf
import Derived.Test.YtfcaaefdmabkhaaQ2F0LmPledgeTop
import Derived.Test.YtfcaaefdmabkhaaQ2F0LmPledgeW
import Derived.Test.YtfcaaefdmabkhaaQ2F0LmRate
import Derived.Test.YtfcaaefdmabkhaaQ2F0P0
import Derived.Test.YtfcaaefdmabkhaaQ2F0P5
import Derived.Test.YtfcaaefdmabkhaaQ2F0P2
import Derived.Test.YtfcaaefdmabkhaaQ2F0P3
import Derived.Test.YtfcaaefdmabkhaaQ2F0P7
namespace Go.Proofs.Ytfcaaefdmabkhaa.Pr
open Go.RowKit Go.Proofs.Ytfcaaefdmabkhaa.Pr Go.Proofs.YtfcaaefdmabkhaaW.PrintWords Go.Proofs.YtfcaaefdmabkhaaW.PrintLast Go.Proofs.YtfcaaefdmabkhaaW.PrintMore
set_option linter.unusedVariables false
set_option linter.unusedSimpArgs false
theorem Qe3 (L : List As) (R : List Rt) : ∀ l : List Pled, (∀ p ∈ l, wokP L R p) → 0 ≤ sumW L R l
 | [], _ => Int.le_refl _
 | p :: t, h => by
  have := Qe3 L R t (fun q hq => h q (List.mem_cons_of_mem _ hq))
  have := (QcF (h p List.mem_cons_self)).2.2
  rw [sumW]; omega
end Go.Proofs.Ytfcaaefdmabkhaa.Pr
