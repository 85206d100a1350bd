/- Names: what a name is, told by the program and by the reference. -/
import Derived.Test.YtggbflplbblgbaaQ962P0
namespace Go.Proofs.Ytggbflplbblgbaa.Pr
open Go.RowKit Go.Proofs.Ytggbflplbblgbaa.Pr Go.Proofs.YtggbflplbblgbaaW.PrintWords Go.Proofs.YtggbflplbblgbaaW.PrintLast Go.Proofs.YtggbflplbblgbaaW.PrintMore
set_option linter.unusedVariables false
set_option linter.unusedSimpArgs false
theorem nwrap {x : Int} (h0 : 0 ≤ x) (h1 : x ≤ 1152921504606846976) : wrap64 x = x := IntWalk.wrap64_in x (by omega)
end Go.Proofs.Ytggbflplbblgbaa.Pr
