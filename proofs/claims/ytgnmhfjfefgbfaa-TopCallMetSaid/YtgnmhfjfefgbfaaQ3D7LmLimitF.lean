/- Limits: what covers when some of an asset is taken back. -/
import Derived.Test.YtgnmhfjfefgbfaaQ3D7LmAsset
import Derived.Test.YtgnmhfjfefgbfaaQ3D7LmAssetAll
import Derived.Test.YtgnmhfjfefgbfaaQ3D7LmAssetLow
import Derived.Test.YtgnmhfjfefgbfaaQ3D7LmAssetMath
import Derived.Test.YtgnmhfjfefgbfaaQ3D7LmLimit
import Derived.Test.YtgnmhfjfefgbfaaQ3D7LmLimitCap
import Derived.Test.YtgnmhfjfefgbfaaQ3D7LmPledge
import Derived.Test.YtgnmhfjfefgbfaaQ3D7LmPledgeOf
import Derived.Test.YtgnmhfjfefgbfaaQ3D7LmPledgeTop
import Derived.Test.YtgnmhfjfefgbfaaQ3D7LmPledgeW
import Derived.Test.YtgnmhfjfefgbfaaQ3D7LmRate
import Derived.Test.YtgnmhfjfefgbfaaQ3D7P0
import Derived.Test.YtgnmhfjfefgbfaaQ3D7LmPledge2
import Derived.Test.YtgnmhfjfefgbfaaQ3D7LmRate2
import Derived.Test.YtgnmhfjfefgbfaaQ3D7LmRate3
import Derived.Test.YtgnmhfjfefgbfaaQ3D7LmSums
namespace Go.Proofs.Ytgnmhfjfefgbfaa.Pr
open Go.RowKit Go.Proofs.Ytgnmhfjfefgbfaa.Pr Go.Proofs.YtgnmhfjfefgbfaaW.PrintWords Go.Proofs.YtgnmhfjfefgbfaaW.PrintLast Go.Proofs.YtgnmhfjfefgbfaaW.PrintMore
set_option linter.unusedVariables false
set_option linter.unusedSimpArgs false
def baseC (L : List As) (R : List Rt) (n : Int) (q : PK) (l : List Pled) : Int := ((ofP q.1 q.2.1 (loP q l)).map (cutP L R n)).sum + ((ofP q.1 q.2.1 (hiP q l)).map (cutP L R n)).sum
def leftC (L : List As) (R : List Rt) (n : Int) (q : PK) (x : Int) : Int := if x = 0 then 0 else cutP L R n (plOf q x)
end Go.Proofs.Ytgnmhfjfefgbfaa.Pr
