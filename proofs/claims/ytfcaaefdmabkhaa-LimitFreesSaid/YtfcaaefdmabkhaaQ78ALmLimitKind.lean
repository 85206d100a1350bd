/- Limits: what an account's pledges are worth by kinds. -/
import Derived.Test.YtfcaaefdmabkhaaQ78ALmAsset
import Derived.Test.YtfcaaefdmabkhaaQ78ALmAssetAll
import Derived.Test.YtfcaaefdmabkhaaQ78ALmLimit
import Derived.Test.YtfcaaefdmabkhaaQ78ALmLimitCap
import Derived.Test.YtfcaaefdmabkhaaQ78ALmName
import Derived.Test.YtfcaaefdmabkhaaQ78ALmPledge
import Derived.Test.YtfcaaefdmabkhaaQ78ALmPledgeOf
import Derived.Test.YtfcaaefdmabkhaaQ78ALmPledgeTop
import Derived.Test.YtfcaaefdmabkhaaQ78ALmPledgeW
import Derived.Test.YtfcaaefdmabkhaaQ78ALmRate
import Derived.Test.YtfcaaefdmabkhaaQ78AP0
import Derived.Test.YtfcaaefdmabkhaaQ78AP5
import Derived.Test.YtfcaaefdmabkhaaQ78AP1
import Derived.Test.YtfcaaefdmabkhaaQ78AP3
import Derived.Test.YtfcaaefdmabkhaaQ78AP6
namespace Go.Proofs.Ytfcaaefdmabkhaa.Pr
open Go.RowKit Go.Proofs.Ytfcaaefdmabkhaa.Pr Go.Proofs.YtfcaaefdmabkhaaW.PrintWords Go.Proofs.YtfcaaefdmabkhaaW.PrintLast Go.Proofs.YtfcaaefdmabkhaaW.PrintMore
set_option linter.unusedVariables false
set_option linter.unusedSimpArgs false
theorem Qeu (L : List As) (R : List Rt) : ∀ l : List Pled, (∀ p ∈ l, wokP L R p) → 0 ≤ sumW L R l
 | [], _ => Int.le_refl _
 | p :: t, h => by
  have := Qeu L R t (fun q hq => h q (List.mem_cons_of_mem _ hq))
  have := (Qcy (h p List.mem_cons_self)).2.2
  rw [sumW]; omega
end Go.Proofs.Ytfcaaefdmabkhaa.Pr
