/- AddonLargest: Largest agrees with the reference. -/
import Derived.Test.YtaiekjimdjlgbaaQ2BBLmAddon2
import Derived.Test.YtaiekjimdjlgbaaQ2BBLmLargest
import Derived.Test.YtaiekjimdjlgbaaQ2BBP4
import Derived.Test.YtaiekjimdjlgbaaQ2BBPrxDAddonLargest
import Derived.Test.YtaiekjimdjlgbaaQ2BBP0
namespace Go.Proofs.Ytaiekjimdjlgbaa.Pure
open Go.RowKit Go.Proofs.Ytaiekjimdjlgbaa.Pr Go.Proofs.YtaiekjimdjlgbaaW.PrintWords Go.Proofs.YtaiekjimdjlgbaaW.PrintLast Go.Proofs.YtaiekjimdjlgbaaW.PrintMore
set_option linter.unusedVariables false
set_option linter.unusedSimpArgs false
theorem AddonLargest : contangolaw28_AddonLargest.Pure := by
  intro l
  intros
  refine ⟨3000, ?_⟩
  obtain ⟨r, e1, e2⟩ := largest_eq l 3000 (by omega)
  unfold contangolaw28_AddonLargest.f
  rw [e1, Option.bind_some, e2, Option.bind_some, if_pos rfl, if_pos (by simp), if_pos rfl, addgoes 3000 (by omega)]
  rfl
end Go.Proofs.Ytaiekjimdjlgbaa.Pure
