/- TierOutright: Outright agrees with the reference. -/
import Derived.Test.YtggbflplbblgbaaQ962LmTier4
import Derived.Test.YtggbflplbblgbaaQ962LmTier5
import Derived.Test.YtggbflplbblgbaaQ962P2
import Derived.Test.YtggbflplbblgbaaQ962PrxDTierOutright
import Derived.Test.YtggbflplbblgbaaQ962P0
namespace Go.Proofs.Ytggbflplbblgbaa.Pure
open Go.RowKit Go.Proofs.Ytggbflplbblgbaa.Pr Go.Proofs.YtggbflplbblgbaaW.PrintWords Go.Proofs.YtggbflplbblgbaaW.PrintLast Go.Proofs.YtggbflplbblgbaaW.PrintMore
set_option linter.unusedVariables false
set_option linter.unusedSimpArgs false
theorem TierOutright : contangolaw24_TierOutright.Pure := by
 intro l rate _ hl _ _
 refine ⟨2 * l.length + 20010, ?_⟩
 unfold contangolaw24_TierOutright.f
 rw [out_eq l rate (by omega) _ (by omega), Option.bind_some, Qei l rate (by omega) _ (by omega), Option.bind_some, if_pos rfl, if_pos rfl, goes24 _ (by omega)]
 rfl
end Go.Proofs.Ytggbflplbblgbaa.Pure
