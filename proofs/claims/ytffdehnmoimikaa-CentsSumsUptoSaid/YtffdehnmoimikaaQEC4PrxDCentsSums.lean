/- Words and lemmas that the printed walks use, without those that these claims don't need. -/
import Derived.Test.YtffdehnmoimikaaQEC4P1
import Derived.Test.YtffdehnmoimikaaQEC4P0
import Derived.Test.YtffdehnmoimikaaQEC4LmReadKinds
namespace Go.Proofs.Ytffdehnmoimikaa.Pr
open Go.RowKit Go.Proofs.YtffdehnmoimikaaW.PrintWords Go.Proofs.YtffdehnmoimikaaW.PrintLast Go.Proofs.YtffdehnmoimikaaW.PrintMore
set_option linter.unusedVariables false
set_option linter.unusedSimpArgs false
def contangolaw01_CentsSums.Pure : Prop := ∀ (l0 : List Int), l0.length ≤ 9223372036854775807 → l0.length * 8 ≤ 140737488351232 → (∀ y_ ∈ l0, (Lit.int .i64 y_).wf = true) → ∃ k, contangolaw01_CentsSums.f k l0 = some true
end Go.Proofs.Ytffdehnmoimikaa.Pr
