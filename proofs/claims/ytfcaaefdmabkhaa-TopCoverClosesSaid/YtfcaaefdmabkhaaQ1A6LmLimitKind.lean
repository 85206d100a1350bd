/- Limits: what an account's pledges are worth by kinds. -/
import Derived.Test.YtfcaaefdmabkhaaQ1A6LmAsset
import Derived.Test.YtfcaaefdmabkhaaQ1A6LmAssetAll
import Derived.Test.YtfcaaefdmabkhaaQ1A6LmLimit
import Derived.Test.YtfcaaefdmabkhaaQ1A6LmLimitCap
import Derived.Test.YtfcaaefdmabkhaaQ1A6LmName
import Derived.Test.YtfcaaefdmabkhaaQ1A6LmPledge
import Derived.Test.YtfcaaefdmabkhaaQ1A6LmPledgeOf
import Derived.Test.YtfcaaefdmabkhaaQ1A6LmPledgeTop
import Derived.Test.YtfcaaefdmabkhaaQ1A6LmPledgeW
import Derived.Test.YtfcaaefdmabkhaaQ1A6LmRate
import Derived.Test.YtfcaaefdmabkhaaQ1A6P0
import Derived.Test.YtfcaaefdmabkhaaQ1A6P1
import Derived.Test.YtfcaaefdmabkhaaQ1A6P2
import Derived.Test.YtfcaaefdmabkhaaQ1A6P3
namespace Go.Proofs.Ytfcaaefdmabkhaa.Pr
open Go.RowKit Go.Proofs.Ytfcaaefdmabkhaa.Pr Go.Proofs.YtfcaaefdmabkhaaW.PrintWords Go.Proofs.YtfcaaefdmabkhaaW.PrintLast Go.Proofs.YtfcaaefdmabkhaaW.PrintMore
set_option linter.unusedVariables false
set_option linter.unusedSimpArgs false
theorem QeB (L : List As) (R : List Rt) : ∀ l : List Pled, (∀ p ∈ l, wokP L R p) → 0 ≤ sumW L R l
 | [], _ => Int.le_refl _
 | p :: t, h => by
  have := QeB L R t (fun q hq => h q (List.mem_cons_of_mem _ hq))
  have := (Qcx (h p List.mem_cons_self)).2.2
  rw [sumW]; omega
end Go.Proofs.Ytfcaaefdmabkhaa.Pr
