/- CentsSums, for inputs of bulk at most 1048576: Sum agrees with the reference and does not depend on the order. -/
import Derived.Test.YtffdehnmoimikaaQEC4LmSumsLaw
import Derived.Test.YtffdehnmoimikaaQEC4P1
import Derived.Test.YtffdehnmoimikaaQEC4P0
namespace Go.Proofs.Ytffdehnmoimikaa.Pure
open Go.RowKit Go.Proofs.Ytffdehnmoimikaa.Pr Go.Proofs.YtffdehnmoimikaaW.PrintWords Go.Proofs.YtffdehnmoimikaaW.PrintLast Go.Proofs.YtffdehnmoimikaaW.PrintMore
set_option linter.unusedVariables false
set_option linter.unusedSimpArgs false
theorem CentsSumsUpto : ∀ (l0 : List Int), l0.length ≤ 9223372036854775807 → l0.length ≤ 1048576 → l0.length * 8 ≤ 140737488351232 → (∀ y_ ∈ l0, (Lit.int .i64 y_).wf = true) → ∃ k, contangolaw01_CentsSums.f k l0 = some true := fun l _ h _ _ => CentsSumsSmall l h
end Go.Proofs.Ytffdehnmoimikaa.Pure
