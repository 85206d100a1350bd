/- InterTotals, for lists of bulk at most 1048576: Total agrees with the reference. -/
import Derived.Test.YtggbflplbblgbaaQ6B9LmInter3
import Derived.Test.YtggbflplbblgbaaQ6B9LmSums
import Derived.Test.YtggbflplbblgbaaQ6B9P2
import Derived.Test.YtggbflplbblgbaaQ6B9P0
namespace Go.Proofs.Ytggbflplbblgbaa.Pure
open Go.RowKit Go.Proofs.Ytggbflplbblgbaa.Pr Go.Proofs.YtggbflplbblgbaaW.PrintWords Go.Proofs.YtggbflplbblgbaaW.PrintLast Go.Proofs.YtggbflplbblgbaaW.PrintMore
set_option linter.unusedVariables false
set_option linter.unusedSimpArgs false
theorem InterTotalsUpto : ∀ (l0 : List Int), l0.length ≤ 9223372036854775807 → l0.length ≤ 1048576 → l0.length * 8 ≤ 140737488351232 → (∀ y_ ∈ l0, (Lit.int .i64 y_).wf = true) → ∃ k, contangolaw25_InterTotals.f k l0 = some true := by
 intro l _ hl _ _
 refine ⟨l.length + 5000, ?_⟩
 unfold contangolaw25_InterTotals.f QaZ.f Qaz.f
 rw [sum_eq l (by omega) _ (by omega), Option.bind_some, Option.bind_some, Qd4 l (by omega) _ (by omega), Option.bind_some, Option.bind_some, if_pos rfl, if_pos rfl, goes25 _ (by omega)]
 rfl
end Go.Proofs.Ytggbflplbblgbaa.Pure
