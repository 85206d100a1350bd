/- The page's examples of chapter 1 hold. -/
import Derived.Test.YtffdehnmoimikaaQEC4P1
import Derived.Test.YtffdehnmoimikaaQEC4P0
namespace Go.Proofs.Ytffdehnmoimikaa.Pr
open Go.RowKit Go.Proofs.Ytffdehnmoimikaa.Pr Go.Proofs.YtffdehnmoimikaaW.PrintWords Go.Proofs.YtffdehnmoimikaaW.PrintLast Go.Proofs.YtffdehnmoimikaaW.PrintMore
set_option linter.unusedVariables false
set_option linter.unusedSimpArgs false
theorem cgoes (k : Nat) (hk : 10 ≤ k) : contangolaw01_goes.f k = some true := at_rounds contangolaw01_goes.mono hk (by decide +kernel)
end Go.Proofs.Ytffdehnmoimikaa.Pr
