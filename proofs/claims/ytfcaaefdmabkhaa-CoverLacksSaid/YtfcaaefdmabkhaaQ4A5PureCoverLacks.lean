/- CoverLacks: Lack agrees with the reference. -/
import Derived.Test.YtfcaaefdmabkhaaQ4A5LmCover0
import Derived.Test.YtfcaaefdmabkhaaQ4A5P8
import Derived.Test.YtfcaaefdmabkhaaQ4A5PrxDCoverLacks
import Derived.Test.YtfcaaefdmabkhaaQ4A5P0
namespace Go.Proofs.Ytfcaaefdmabkhaa.Pure
open Go.RowKit Go.Proofs.Ytfcaaefdmabkhaa.Pr Go.Proofs.YtfcaaefdmabkhaaW.PrintWords Go.Proofs.YtfcaaefdmabkhaaW.PrintLast Go.Proofs.YtfcaaefdmabkhaaW.PrintMore
set_option linter.unusedVariables false
set_option linter.unusedSimpArgs false
theorem CoverLacks : contangolaw34_CoverLacks.Pure := by
  intro n c _ _
  refine ⟨8000, ?_⟩
  unfold contangolaw34_CoverLacks.f
  rw [lack_eq, Option.bind_some, rlack_eq, Option.bind_some, if_pos rfl, if_pos rfl, goes34 8000 (by omega)]
  rfl
end Go.Proofs.Ytfcaaefdmabkhaa.Pure
