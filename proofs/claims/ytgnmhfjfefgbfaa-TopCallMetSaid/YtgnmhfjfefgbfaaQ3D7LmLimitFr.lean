/- Limits: how many may be taken back, by the two searches. -/
import Derived.Test.YtgnmhfjfefgbfaaQ3D7LmAsset
import Derived.Test.YtgnmhfjfefgbfaaQ3D7LmAssetAll
import Derived.Test.YtgnmhfjfefgbfaaQ3D7LmLimit
import Derived.Test.YtgnmhfjfefgbfaaQ3D7LmLimitF
import Derived.Test.YtgnmhfjfefgbfaaQ3D7LmPledge
import Derived.Test.YtgnmhfjfefgbfaaQ3D7LmPledge2
import Derived.Test.YtgnmhfjfefgbfaaQ3D7P0
import Derived.Test.YtgnmhfjfefgbfaaQ3D7LmPledgeW
import Derived.Test.YtgnmhfjfefgbfaaQ3D7LmRate
namespace Go.Proofs.Ytgnmhfjfefgbfaa.Pr
open Go.RowKit Go.Proofs.Ytgnmhfjfefgbfaa.Pr Go.Proofs.YtgnmhfjfefgbfaaW.PrintWords Go.Proofs.YtgnmhfjfefgbfaaW.PrintLast Go.Proofs.YtgnmhfjfefgbfaaW.PrintMore
set_option linter.unusedVariables false
set_option linter.unusedSimpArgs false
def Qgk (l : List Pled) (q : PK) (n : Int) (L : List As) (R : List Rt) (m : Int) : Prop := n ≤ baseC L R n q l + leftC L R n q (hadP q l - m)
instance (l : List Pled) (q : PK) (n : Int) (L : List As) (R : List Rt) (m : Int) : Decidable (Qgk l q n L R m) := inferInstanceAs (Decidable (_ ≤ _))
theorem Qew {l : List Pled} {a b : ByteArray} {n : Int} {L : List As} {R : List Rt} (h : (covS l a b n L R).2 = 0) : (cntS l a b n L R).2 = 0 := by
 unfold covS at h
 by_cases h1 : (cntS l a b n L R).2 = 0
 ·exact h1
 rw [if_neg h1] at h; exact absurd h h1
end Go.Proofs.Ytgnmhfjfefgbfaa.Pr
