/- scan: Check's answer, found, Losses, Risk, Delta. -/
import Derived.Test.YtgnmhfjfefgbfaaQ789LmPos
import Derived.Test.YtgnmhfjfefgbfaaQ789P0
import Derived.Test.YtgnmhfjfefgbfaaQ789P1
import Derived.Test.YtgnmhfjfefgbfaaQ789P2
namespace Go.Proofs.Ytgnmhfjfefgbfaa.Pr
open Go.RowKit Go.Proofs.Ytgnmhfjfefgbfaa.Pr Go.Proofs.YtgnmhfjfefgbfaaW.PrintWords Go.Proofs.YtgnmhfjfefgbfaaW.PrintLast Go.Proofs.YtgnmhfjfefgbfaaW.PrintMore
set_option linter.unusedVariables false
set_option linter.unusedSimpArgs false
theorem goes14 (k : Nat) (hk : 9000 ≤ k) : Qav.f k = some true := Qc5 Qav.mono (show 200 ≤ k by omega) (by decide +kernel)
end Go.Proofs.Ytgnmhfjfefgbfaa.Pr
