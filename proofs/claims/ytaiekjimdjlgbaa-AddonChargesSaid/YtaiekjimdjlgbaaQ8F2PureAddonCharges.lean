/- AddonCharges: Check and Charge agree with the reference. -/
import Derived.Test.YtaiekjimdjlgbaaQ8F2LmAddon
import Derived.Test.YtaiekjimdjlgbaaQ8F2LmAddon2
import Derived.Test.YtaiekjimdjlgbaaQ8F2P2
import Derived.Test.YtaiekjimdjlgbaaQ8F2PrxDAddonCharges
import Derived.Test.YtaiekjimdjlgbaaQ8F2P0
namespace Go.Proofs.Ytaiekjimdjlgbaa.Pure
open Go.RowKit Go.Proofs.Ytaiekjimdjlgbaa.Pr Go.Proofs.YtaiekjimdjlgbaaW.PrintWords Go.Proofs.YtaiekjimdjlgbaaW.PrintLast Go.Proofs.YtaiekjimdjlgbaaW.PrintMore
set_option linter.unusedVariables false
set_option linter.unusedSimpArgs false
theorem AddonCharges : contangolaw28_AddonCharges.Pure := by
  intro lots l
  intros
  refine ⟨l.length + 3000, ?_⟩
  obtain ⟨K, hK⟩ : ∃ K, K = l.length + 3000 := ⟨_, rfl⟩
  rw [← hK]
  unfold contangolaw28_AddonCharges.f
  rw [steps_eq l (by omega) K (by omega), Option.bind_some, charge_eq lots _ K (by omega), Option.bind_some, rcharge_eq lots l K (by omega), Option.bind_some, addcheck_eq _ K (by omega), Option.bind_some, raddcheck_eq l K (by omega), Option.bind_some, if_pos rfl, if_pos rfl, if_pos rfl, addgoes K (by omega)]
  rfl
end Go.Proofs.Ytaiekjimdjlgbaa.Pure
